/- Go functions as plain Lean functions, each with a proof that the Go code computes just that, and facts on them; conditions: those that each theorem states. -/
import Derived.Test.YticckanjfdcpaaaDoorQMatches3
namespace Go.Proofs.YticckanjfdcpaaaDoor.PSimplex
open Go.RowKit Go.Proofs.YticckanjfdcpaaaDoorW.PrintWords Go.Proofs.YticckanjfdcpaaaDoorW.PrintLast Go.Proofs.YticckanjfdcpaaaDoorW.PrintMore
set_option linter.unusedVariables false
set_option linter.unusedSimpArgs false
set_option maxRecDepth 100000
theorem awake_now : toruslaw07_awake.f 100 = some true := by decide +kernel
theorem wrap_id {a : Int} (h0 : -9223372036854775808 ≤ a) (h1 : a ≤ 9223372036854775807) : wrap64 a = a := by unfold wrap64; omega
theorem ev_bind {α β : Type} {g : Nat → Option α} {f : Nat → α → Option β} {a : α} {r : β} (h : Ev g a) : Ev (fun n => (g n).bind (f n)) r ↔ Ev (fun n => f n a) r := by
  refine ⟨fun hb => ?_, fun hf => Ev.bind h hf⟩
  obtain ⟨K, h⟩ := h
  obtain ⟨K', hb⟩ := hb
  refine ⟨max K K', fun n hn => ?_⟩
  have h2 : (g n).bind (f n) = some r := hb n (by omega)
  rw [h n (by omega)] at h2
  exact h2
theorem ev_succ {α : Type} {g : Nat → Option α} {r : α} (h : Ev (fun k => g (k + 1)) r) : Ev g r := Ev.step (fun _ => rfl) h
theorem awake_ev : Ev (fun k => toruslaw07_awake.f k) true := Ev.of toruslaw07_awake.mono (k := 100) awake_now

/-! ### The order -/
/-- The first difference of two lists. -/
def lex : List Int → List Int → Int
  | x :: xs, y :: ys => if x < y then -1 else if y < x then 1 else lex xs ys
  | _, _ => 0
/-- Lists by length, then by the first difference. -/
def cm (a b : List Int) : Int := if a.length < b.length then -1 else if b.length < a.length then 1 else lex a b
theorem lex_cons (x y : Int) (xs ys : List Int) : lex (x :: xs) (y :: ys) = if x < y then -1 else if y < x then 1 else lex xs ys := rfl
theorem lex_self : ∀ a, lex a a = 0
  | [] => rfl
  | x :: xs => by simp [lex, lex_self xs]
theorem lex_swap : ∀ a b, lex b a = -lex a b
  | [], [] => rfl
  | [], _ :: _ => rfl
  | _ :: _, [] => rfl
  | x :: xs, y :: ys => by
    have := lex_swap xs ys
    unfold lex
    split <;> split <;> (try split) <;> omega
theorem lex_range : ∀ a b, lex a b = -1 ∨ lex a b = 0 ∨ lex a b = 1
  | [], [] => by simp [lex]
  | [], _ :: _ => by simp [lex]
  | _ :: _, [] => by simp [lex]
  | x :: xs, y :: ys => by
    have := lex_range xs ys
    unfold lex
    split
    · simp
    · split
      · simp
      · exact this
theorem lex_eq : ∀ a b, a.length = b.length → lex a b = 0 → a = b
  | [], [], _, _ => rfl
  | x :: xs, y :: ys, h, e => by
    unfold lex at e
    split at e
    · simp at e
    · split at e
      · simp at e
      · rw [lex_eq xs ys (by simpa using h) e]
        congr 1
        omega
theorem lex_le : ∀ a b c, a.length = b.length → b.length = c.length → lex a b ≤ 0 → lex b c ≤ 0 → lex a c ≤ 0
  | [], [], [], _, _, _, _ => by simp [lex]
  | x :: xs, y :: ys, z :: zs, h, h', e, e' => by
    have ih := lex_le xs ys zs (by simpa using h) (by simpa using h')
    unfold lex at e e' ⊢
    split at e <;> split at e' <;> split <;> (try split) <;> (try split at e) <;> (try split at e') <;> first | omega | (exact ih e e') | skip
theorem cm_self (a : List Int) : cm a a = 0 := by simp [cm, lex_self]
theorem cm_swap (a b : List Int) : cm b a = -cm a b := by
  have := lex_swap a b
  unfold cm
  split <;> split <;> omega
theorem cm_range (a b : List Int) : cm a b = -1 ∨ cm a b = 0 ∨ cm a b = 1 := by
  have := lex_range a b
  unfold cm
  split
  · simp
  · split
    · simp
    · exact this
theorem cm_eq (a b : List Int) (h : cm a b = 0) : a = b := by
  unfold cm at h
  split at h
  · simp at h
  · split at h
    · simp at h
    · exact lex_eq a b (by omega) h
theorem cm_le (a b c : List Int) (h : cm a b ≤ 0) (h' : cm b c ≤ 0) : cm a c ≤ 0 := by
  have := lex_le a b c
  unfold cm at h h' ⊢
  split at h <;> split at h' <;> (try split at h) <;> (try split at h') <;> split <;> (try split) <;> first | omega | (exact this (by omega) (by omega) h h')

theorem drop_cons (a : List Int) (i : Nat) (h : i < a.length) : a.drop i = rd a (i : Int) :: a.drop (i + 1) := by
  rw [List.drop_eq_getElem_cons h]
  simp [rd, h]
theorem rcmp_l (a b : List Int) (he : a.length = b.length) (hl : a.length ≤ 9223372036854775806) : ∀ (m i k : Nat), m = a.length - i → m < k → i ≤ a.length →
    torusref07_Cmp.l0 k a b (i : Int) = some (lex (a.drop i) (b.drop i))
  | 0, i, k + 1, hm, hk, hi => by
    have e : ¬ ((i : Int) < (a.length : Int)) := by omega
    unfold torusref07_Cmp.l0
    rw [if_neg e, List.drop_of_length_le (by omega), List.drop_of_length_le (by omega)]
    rfl
  | m + 1, i, k + 1, hm, hk, hi => by
    have ih := rcmp_l a b he hl m (i + 1) k (by omega) (by omega) (by omega)
    have w : wrap64 ((i : Int) + 1) = ((i + 1 : Nat) : Int) := by rw [wrap_id (by omega) (by omega)]; omega
    unfold torusref07_Cmp.l0
    rw [if_pos (by omega), if_pos (by omega), if_pos (by omega), drop_cons a i (by omega), drop_cons b i (by omega), w, ih, lex_cons]
    by_cases c : rd a (i : Int) < rd b (i : Int)
    · rw [if_pos c, if_pos c]
    · rw [if_neg c, if_neg c]
      by_cases c' : rd b (i : Int) < rd a (i : Int)
      · rw [if_pos c', if_pos c']
      · rw [if_neg c', if_neg c']
theorem rcmp_ev (a b : List Int) (hl : a.length ≤ 9223372036854775806) : Ev (fun k => torusref07_Cmp.f k a b) (cm a b) := by
  refine Ev.of (torusref07_Cmp.mono a b) (k := a.length + 1) ?_
  unfold torusref07_Cmp.f cm
  by_cases c : (a.length : Int) = (b.length : Int)
  · rw [if_pos c, if_neg (by omega), if_neg (by omega)]
    simpa using rcmp_l a b (by omega) hl a.length 0 (a.length + 1) (by omega) (by omega) (by omega)
  · rw [if_neg c]
    by_cases c' : (a.length : Int) < (b.length : Int)
    · rw [if_pos c', if_pos (by omega)]
    · rw [if_neg c', if_neg (by omega), if_pos (by omega)]
theorem ccmp (a b : Int) : cmp_Compare_int.f a b = some (if a < b then -1 else if b < a then 1 else 0) := by
  have h : ∀ x : Int, cmp_isNaN_int.f x = some false := fun x => by simp [cmp_isNaN_int.f]
  unfold cmp_Compare_int.f
  rw [h, h]
  simp only [Option.bind_some]
  rw [if_neg (by simp), if_neg (by simp)]
  split
  · rfl
  · split <;> rfl
theorem scmp_l (a b : List Int) (he : a.length = b.length) (hl : a.length ≤ 9223372036854775806) : ∀ (m i k : Nat), m = a.length - i → m < k → i ≤ a.length →
    api_Simplex_int_45.l0 k a b a (a.length : Int) (i : Int) = some (lex (a.drop i) (b.drop i))
  | 0, i, k + 1, hm, hk, hi => by
    unfold api_Simplex_int_45.l0
    rw [if_neg (by omega), if_neg (by omega), List.drop_of_length_le (by omega), List.drop_of_length_le (by omega)]
    rfl
  | m + 1, i, k + 1, hm, hk, hi => by
    have ih := scmp_l a b he hl m (i + 1) k (by omega) (by omega) (by omega)
    have w : wrap64 ((i : Int) + 1) = ((i + 1 : Nat) : Int) := by rw [wrap_id (by omega) (by omega)]; omega
    unfold api_Simplex_int_45.l0
    rw [if_pos (by omega), if_pos (by omega), if_pos (by omega), if_neg (by omega), if_pos (by omega), ccmp, drop_cons a i (by omega), drop_cons b i (by omega), w, ih, lex_cons]
    simp only [Option.bind_some]
    by_cases c : rd a (i : Int) < rd b (i : Int)
    · rw [if_pos c, if_pos c]; rfl
    · rw [if_neg c, if_neg c]
      by_cases c' : rd b (i : Int) < rd a (i : Int)
      · rw [if_pos c', if_pos c']; rfl
      · rw [if_neg c', if_neg c', if_pos rfl]
theorem scmp_ev (a b : List Int) (hl : a.length ≤ 9223372036854775806) : Ev (fun k => simplex_Cmp.f k a b) (cm a b) := by
  refine Ev.of (simplex_Cmp.mono a b) (k := a.length + 1) ?_
  unfold simplex_Cmp.f cm
  rw [ccmp]
  simp only [Option.bind_some]
  by_cases c : (a.length : Int) < (b.length : Int)
  · rw [if_pos c, if_neg (by decide), if_pos (by omega)]
  · rw [if_neg c]
    by_cases c' : (b.length : Int) < (a.length : Int)
    · rw [if_pos c', if_neg (by decide), if_neg (by omega), if_pos (by omega)]
    · rw [if_neg c', if_pos rfl, if_neg (by omega), if_neg (by omega)]
      unfold api_Simplex_int_45.f
      have := scmp_l a b (by omega) hl a.length 0 (a.length + 1) (by omega) (by omega) (by omega)
      simp only [List.drop_zero] at this
      rw [show ((0 : Nat) : Int) = 0 from rfl] at this
      rw [this]
      rfl

theorem law_long {α : Type} {g : Nat → Option α} {f : Nat → α → Option Bool} {a : α} (h : Ev g a) (hf : Ev (fun n => f n a) true) : Ev (fun n => (g n).bind (f n)) true := (ev_bind h).mpr hf
end Go.Proofs.YticckanjfdcpaaaDoor.PSimplex
namespace Go.Proofs.YticckanjfdcpaaaDoor.PSimplex
open Go.RowKit Go.Proofs.YticckanjfdcpaaaDoorW.PrintWords Go.Proofs.YticckanjfdcpaaaDoorW.PrintLast Go.Proofs.YticckanjfdcpaaaDoorW.PrintMore
set_option linter.unusedVariables false
set_option linter.unusedSimpArgs false

def bad (v : Int) : Bool := decide (v < 0) || decide (v ≥ 64)
def asc : List Int → Bool
  | x :: y :: t => decide (x < y) && asc (y :: t)
  | _ => true
def ck (l : List Int) : Int := if l.length = 0 then 1 else if l.length > 5 then 3 else if l.any bad = true then 1 else if asc l = true then 0 else 6
theorem wrap_nat (i : Nat) (h : i ≤ 1000000) : wrap64 ((i : Int) + 1) = ((i + 1 : Nat) : Int) := by rw [wrap_id (by omega) (by omega)]; omega
theorem bad_if (v : Int) : (decide (v < 0) || decide (v ≥ 64)) = bad v := rfl
theorem vert_l (l : List Int) (hl : l.length ≤ 1000) : ∀ (m i : Nat), m = l.length - i → i ≤ l.length →
    Ev (fun k => (vert_ix.l0 k l (l.length : Int) (i : Int)).bind fun t => if t ≥ 0 then some (1 : Int) else some 0) (if (l.drop i).any bad = true then 1 else 0)
  | 0, i, hm, hi => by
    rw [List.drop_of_length_le (by omega)]
    refine ev_succ ?_
    simp only [vert_ix.l0, if_neg (show ¬ ((i : Int) < (l.length : Int)) by omega), Option.bind_some]
    exact Ev.now _
  | m + 1, i, hm, hi => by
    have ih := vert_l l hl m (i + 1) (by omega) (by omega)
    rw [drop_cons l i (by omega)]
    refine ev_succ ?_
    simp only [vert_ix.l0, if_pos (show ((i : Int) < (l.length : Int)) by omega), if_pos (show (0 : Int) ≤ (i : Int) by omega), bad_if, wrap_nat i (by omega)]
    cases hb : bad (rd l (i : Int)) with
    | true =>
      simp only [if_true, Option.bind_some, if_pos (show (i : Int) ≥ 0 by omega), List.any_cons, hb, Bool.true_or]
      exact Ev.now _
    | false =>
      simp only [Bool.false_eq_true, if_false, List.any_cons, hb, Bool.false_or]
      exact ih
theorem asc_cons (l : List Int) (i : Nat) (h : i + 1 < l.length) : asc (l.drop i) = (decide (rd l (i : Int) < rd l ((i + 1 : Nat) : Int)) && asc (l.drop (i + 1))) := by
  rw [drop_cons l i (by omega), drop_cons l (i + 1) h]
  rfl
theorem asc_end (l : List Int) (i : Nat) (h : l.length ≤ i + 1) : asc (l.drop i) = true := by
  by_cases h2 : i < l.length
  · rw [drop_cons l i h2, List.drop_of_length_le (by omega)]
    rfl
  · rw [List.drop_of_length_le (by omega)]
    rfl
theorem rd_drop1 (l : List Int) (i : Nat) : rd (l.drop 1) (i : Int) = rd l ((i + 1 : Nat) : Int) := by
  simp [rd, List.getElem?_drop, Nat.add_comm]
theorem scheck_l (l : List Int) (hl : l.length ≤ 1000) (h1 : 1 ≤ l.length) : ∀ (m i : Nat), m = l.length - 1 - i → i ≤ l.length - 1 →
    Ev (fun k => simplex_Check.l0 k l (l.drop 1) ((l.drop 1).length : Int) (i : Int)) (if asc (l.drop i) = true then 0 else 6)
  | 0, i, hm, hi => by
    have hd : (l.drop 1).length = l.length - 1 := List.length_drop
    rw [asc_end l i (by omega)]
    refine ev_succ ?_
    simp only [simplex_Check.l0, if_neg (show ¬ ((i : Int) < ((l.drop 1).length : Int)) by omega)]
    exact Ev.now _
  | m + 1, i, hm, hi => by
    have hd : (l.drop 1).length = l.length - 1 := List.length_drop
    have ih := scheck_l l hl h1 m (i + 1) (by omega) (by omega)
    rw [asc_cons l i (by omega)]
    refine ev_succ ?_
    simp only [simplex_Check.l0, if_pos (show ((i : Int) < ((l.drop 1).length : Int)) by omega), if_pos (show (0 : Int) ≤ (i : Int) by omega), if_pos (show ((i : Int) < (l.length : Int)) by omega), wrap_nat i (by omega), rd_drop1]
    by_cases c : rd l ((i + 1 : Nat) : Int) ≤ rd l (i : Int)
    · simp only [if_pos c, decide_eq_false (show ¬ (rd l (i : Int) < rd l ((i + 1 : Nat) : Int)) by omega), Bool.false_and, Bool.false_eq_true, if_false]
      exact Ev.now _
    · simp only [if_neg c, decide_eq_true (show (rd l (i : Int) < rd l ((i + 1 : Nat) : Int)) by omega), Bool.true_and]
      exact ih
theorem svert_ev (l : List Int) : Ev (fun k => simplex_vertices.f k l) (if l.length = 0 then 1 else if l.length > 5 then 3 else if l.any bad = true then 1 else 0) := by
  by_cases c : l.length = 0
  · simp only [simplex_vertices.f, if_pos c, if_pos (show (l.length : Int) = 0 by omega)]
    exact Ev.now _
  · by_cases c' : l.length > 5
    · simp only [simplex_vertices.f, if_neg c, if_pos c', if_neg (show ¬ ((l.length : Int) = 0) by omega), if_pos (show (l.length : Int) > 5 by omega)]
      exact Ev.now _
    · simp only [simplex_vertices.f, if_neg c, if_neg c', if_neg (show ¬ ((l.length : Int) = 0) by omega), if_neg (show ¬ ((l.length : Int) > 5) by omega)]
      simpa using vert_l l (by omega) l.length 0 (by omega) (by omega)
theorem scheck_ev (l : List Int) : Ev (fun k => simplex_Check.f k l) (ck l) := by
  unfold simplex_Check.f ck
  refine (ev_bind (svert_ev l)).mpr ?_
  by_cases c : l.length = 0
  · simp only [if_pos c]
    exact Ev.now _
  · by_cases c' : l.length > 5
    · simp only [if_neg c, if_pos c']
      exact Ev.now _
    · simp only [if_neg c, if_neg c']
      cases hb : l.any bad with
      | true => exact Ev.now _
      | false =>
        simp only [Bool.false_eq_true, if_false, if_true, if_pos (show 1 ≤ (l.length : Int) by omega)]
        simpa using scheck_l l (by omega) (by omega) (l.length - 1) 0 (by omega) (by omega)
theorem rcheck_l1 (l : List Int) (hl : l.length ≤ 1000) : ∀ (m i : Nat), m = l.length - 1 - i → Ev (fun k => torusref07_Check.l1 k l ((i + 1 : Nat) : Int)) (if asc (l.drop i) = true then 0 else 6)
  | 0, i, hm => by
    rw [asc_end l i (by omega)]
    refine ev_succ ?_
    simp only [torusref07_Check.l1, if_neg (show ¬ (((i + 1 : Nat) : Int) < (l.length : Int)) by omega)]
    exact Ev.now _
  | m + 1, i, hm => by
    have ih := rcheck_l1 l hl m (i + 1) (by omega)
    have hw : wrap64 (((i + 1 : Nat) : Int) - 1) = (i : Int) := by rw [wrap_id (by omega) (by omega)]; omega
    rw [asc_cons l i (by omega)]
    refine ev_succ ?_
    simp only [torusref07_Check.l1, if_pos (show (((i + 1 : Nat) : Int) < (l.length : Int)) by omega), if_pos (show (0 : Int) ≤ ((i + 1 : Nat) : Int) by omega), hw, if_pos (show (0 : Int) ≤ (i : Int) by omega), if_pos (show ((i : Int) < (l.length : Int)) by omega), wrap_nat (i + 1) (by omega)]
    by_cases c : rd l ((i + 1 : Nat) : Int) ≤ rd l (i : Int)
    · simp only [if_pos c, decide_eq_false (show ¬ (rd l (i : Int) < rd l ((i + 1 : Nat) : Int)) by omega), Bool.false_and, Bool.false_eq_true, if_false]
      exact Ev.now _
    · simp only [if_neg c, decide_eq_true (show (rd l (i : Int) < rd l ((i + 1 : Nat) : Int)) by omega), Bool.true_and]
      exact ih
theorem rcheck_l0 (l : List Int) (hl : l.length ≤ 1000) : ∀ (m i : Nat), m = l.length - i → i ≤ l.length → Ev (fun k => torusref07_Check.l0 k l (i : Int)) (if (l.drop i).any bad = true then 1 else if asc l = true then 0 else 6)
  | 0, i, hm, hi => by
    rw [List.drop_of_length_le (by omega)]
    refine ev_succ ?_
    simp only [torusref07_Check.l0, if_neg (show ¬ ((i : Int) < (l.length : Int)) by omega), List.any_nil, Bool.false_eq_true, if_false]
    simpa using rcheck_l1 l hl (l.length - 1) 0 (by omega)
  | m + 1, i, hm, hi => by
    have ih := rcheck_l0 l hl m (i + 1) (by omega) (by omega)
    rw [drop_cons l i (by omega)]
    refine ev_succ ?_
    simp only [torusref07_Check.l0, if_pos (show ((i : Int) < (l.length : Int)) by omega), if_pos (show (0 : Int) ≤ (i : Int) by omega), wrap_nat i (by omega), List.any_cons]
    by_cases c : rd l (i : Int) < 0
    · have hb : bad (rd l (i : Int)) = true := by simp [bad, c]
      simp only [if_pos c, hb, Bool.true_or, if_true]
      exact Ev.now _
    · by_cases c' : rd l (i : Int) ≥ 64
      · have hb : bad (rd l (i : Int)) = true := by simp [bad, c']
        simp only [if_neg c, if_pos c', hb, Bool.true_or, if_true]
        exact Ev.now _
      · have hb : bad (rd l (i : Int)) = false := by simp [bad]; omega
        simp only [if_neg c, if_neg c', hb, Bool.false_or]
        exact ih
theorem rcheck_ev (l : List Int) : Ev (fun k => torusref07_Check.f k l) (ck l) := by
  unfold torusref07_Check.f ck
  by_cases c : l.length = 0
  · simp only [if_pos c, if_pos (show (l.length : Int) = 0 by omega)]
    exact Ev.now _
  · by_cases c' : l.length > 5
    · simp only [if_neg c, if_pos c', if_neg (show ¬ ((l.length : Int) = 0) by omega), if_pos (show (l.length : Int) > 5 by omega)]
      exact Ev.now _
    · simp only [if_neg c, if_neg c', if_neg (show ¬ ((l.length : Int) = 0) by omega), if_neg (show ¬ ((l.length : Int) > 5) by omega)]
      simpa using rcheck_l0 l (by omega) l.length 0 (by omega) (by omega)
theorem ck_ok {l : List Int} (h : ck l = 0) : 1 ≤ l.length ∧ l.length ≤ 5 ∧ l.any bad = false ∧ asc l = true := by
  unfold ck at h
  split at h
  · simp at h
  · split at h
    · simp at h
    · split at h
      · simp at h
      · rename_i c1 c2 c3
        split at h
        · rename_i c4
          exact ⟨by omega, by omega, by simpa using c3, c4⟩
        · simp at h
theorem ck_of {l : List Int} (h1 : 1 ≤ l.length) (h2 : l.length ≤ 5) (h3 : l.any bad = false) (h4 : asc l = true) : ck l = 0 := by
  unfold ck
  rw [if_neg (by omega), if_neg (by omega), h3, h4]
  rfl
end Go.Proofs.YticckanjfdcpaaaDoor.PSimplex
namespace Go.Proofs.YticckanjfdcpaaaDoor.PSimplex
open Go.RowKit Go.Proofs.YticckanjfdcpaaaDoorW.PrintWords Go.Proofs.YticckanjfdcpaaaDoorW.PrintLast Go.Proofs.YticckanjfdcpaaaDoorW.PrintMore
set_option linter.unusedVariables false
set_option linter.unusedSimpArgs false

theorem con_l (l : List Int) (x : Int) (hl : l.length ≤ 1000) : ∀ (m i : Nat), m = l.length - i → i ≤ l.length →
    Ev (fun k => (api_Simplex_int_64.l0 k l x (l.length : Int) (i : Int)).bind fun t => some (decide (t ≥ 0))) (decide (x ∈ l.drop i))
  | 0, i, hm, hi => by
    rw [List.drop_of_length_le (by omega)]
    refine ev_succ ?_
    simp only [api_Simplex_int_64.l0, if_neg (show ¬ ((i : Int) < (l.length : Int)) by omega), Option.bind_some]
    exact Ev.now _
  | m + 1, i, hm, hi => by
    have ih := con_l l x hl m (i + 1) (by omega) (by omega)
    rw [drop_cons l i (by omega)]
    refine ev_succ ?_
    simp only [api_Simplex_int_64.l0, if_pos (show ((i : Int) < (l.length : Int)) by omega), if_pos (show (0 : Int) ≤ (i : Int) by omega), wrap_nat i (by omega)]
    by_cases c : x = rd l (i : Int)
    · simp only [if_pos c, Option.bind_some]
      have e : decide (x ∈ rd l (i : Int) :: l.drop (i + 1)) = decide ((i : Int) ≥ 0) := by rw [decide_eq_true (show x ∈ rd l (i : Int) :: l.drop (i + 1) by simp [c]), decide_eq_true (by omega)]
      rw [e]
      exact Ev.now _
    · simp only [if_neg c]
      have e : decide (x ∈ rd l (i : Int) :: l.drop (i + 1)) = decide (x ∈ l.drop (i + 1)) := by simp [c]
      rw [e]
      exact ih
theorem con_ev (l : List Int) (x : Int) (hl : l.length ≤ 1000) : Ev (fun k => api_Simplex_int_49.f k l x) (decide (x ∈ l)) := by
  have := con_l l x hl l.length 0 (by omega) (by omega)
  simpa [api_Simplex_int_49.f, api_Simplex_int_64.f] using this
theorem in_l (l : List Int) (x : Int) (hl : l.length ≤ 1000) : ∀ (m i : Nat), m = l.length - i → i ≤ l.length → Ev (fun k => torusref07_In.l0 k l x (i : Int)) (decide (x ∈ l.drop i))
  | 0, i, hm, hi => by
    rw [List.drop_of_length_le (by omega)]
    refine ev_succ ?_
    simp only [torusref07_In.l0, if_neg (show ¬ ((i : Int) < (l.length : Int)) by omega)]
    exact Ev.now _
  | m + 1, i, hm, hi => by
    have ih := in_l l x hl m (i + 1) (by omega) (by omega)
    rw [drop_cons l i (by omega)]
    refine ev_succ ?_
    simp only [torusref07_In.l0, if_pos (show ((i : Int) < (l.length : Int)) by omega), if_pos (show (0 : Int) ≤ (i : Int) by omega), wrap_nat i (by omega)]
    by_cases c : rd l (i : Int) = x
    · simp only [if_pos c]
      rw [decide_eq_true (show x ∈ rd l (i : Int) :: l.drop (i + 1) by simp [c])]
      exact Ev.now _
    · simp only [if_neg c]
      have e : decide (x ∈ rd l (i : Int) :: l.drop (i + 1)) = decide (x ∈ l.drop (i + 1)) := by
        have c' : ¬ (x = rd l (i : Int)) := fun h => c h.symm
        simp [c']
      rw [e]
      exact ih
theorem in_ev (l : List Int) (x : Int) (hl : l.length ≤ 1000) : Ev (fun k => torusref07_In.f k l x) (decide (x ∈ l)) := by
  have := in_l l x hl l.length 0 (by omega) (by omega)
  simpa [torusref07_In.f] using this
def hasB (a b : List Int) : Bool := b.all (fun v => decide (v ∈ a))
theorem shas_l (a b : List Int) (ha : a.length ≤ 1000) (hb : b.length ≤ 1000) : ∀ (m i : Nat), m = b.length - i → i ≤ b.length →
    Ev (fun k => (has_ix.l0 k b a (b.length : Int) (i : Int)).bind fun t => some (!(decide (t ≥ 0)))) (hasB a (b.drop i))
  | 0, i, hm, hi => by
    rw [List.drop_of_length_le (by omega)]
    refine ev_succ ?_
    simp only [has_ix.l0, if_neg (show ¬ ((i : Int) < (b.length : Int)) by omega), Option.bind_some]
    exact Ev.now _
  | m + 1, i, hm, hi => by
    have ih := shas_l a b ha hb m (i + 1) (by omega) (by omega)
    rw [drop_cons b i (by omega)]
    refine ev_succ ?_
    simp only [has_ix.l0, if_pos (show ((i : Int) < (b.length : Int)) by omega), if_pos (show (0 : Int) ≤ (i : Int) by omega), wrap_nat i (by omega), Option.bind_assoc]
    refine (ev_bind (con_ev a (rd b (i : Int)) ha)).mpr ?_
    by_cases c : rd b (i : Int) ∈ a
    · simp only [decide_eq_true c, if_true]
      have e : hasB a (rd b (i : Int) :: b.drop (i + 1)) = hasB a (b.drop (i + 1)) := by simp [hasB, c]
      rw [e]
      exact ih
    · simp only [decide_eq_false c, Bool.false_eq_true, if_false, Option.bind_some]
      have e : hasB a (rd b (i : Int) :: b.drop (i + 1)) = !(decide ((i : Int) ≥ 0)) := by simp [hasB, c]
      rw [e]
      exact Ev.now _
theorem shas_ev (a b : List Int) (ha : a.length ≤ 1000) (hb : b.length ≤ 1000) : Ev (fun k => simplex_Has.f k a b) (hasB a b) := by
  have := shas_l a b ha hb b.length 0 (by omega) (by omega)
  simpa [simplex_Has.f] using this
theorem rhas_l (a b : List Int) (ha : a.length ≤ 1000) (hb : b.length ≤ 1000) : ∀ (m i : Nat), m = b.length - i → i ≤ b.length → Ev (fun k => torusref07_Has.l0 k a b (i : Int)) (hasB a (b.drop i))
  | 0, i, hm, hi => by
    rw [List.drop_of_length_le (by omega)]
    refine ev_succ ?_
    simp only [torusref07_Has.l0, if_neg (show ¬ ((i : Int) < (b.length : Int)) by omega)]
    exact Ev.now _
  | m + 1, i, hm, hi => by
    have ih := rhas_l a b ha hb m (i + 1) (by omega) (by omega)
    rw [drop_cons b i (by omega)]
    refine ev_succ ?_
    simp only [torusref07_Has.l0, if_pos (show ((i : Int) < (b.length : Int)) by omega), if_pos (show (0 : Int) ≤ (i : Int) by omega), wrap_nat i (by omega)]
    refine (ev_bind (in_ev a (rd b (i : Int)) ha)).mpr ?_
    by_cases c : rd b (i : Int) ∈ a
    · simp only [decide_eq_true c, if_true]
      have e : hasB a (rd b (i : Int) :: b.drop (i + 1)) = hasB a (b.drop (i + 1)) := by simp [hasB, c]
      rw [e]
      exact ih
    · simp only [decide_eq_false c, Bool.false_eq_true, if_false]
      have e : hasB a (rd b (i : Int) :: b.drop (i + 1)) = false := by simp [hasB, c]
      rw [e]
      exact Ev.now _
theorem rhas_ev (a b : List Int) (ha : a.length ≤ 1000) (hb : b.length ≤ 1000) : Ev (fun k => torusref07_Has.f k a b) (hasB a b) := by
  have := rhas_l a b ha hb b.length 0 (by omega) (by omega)
  simpa [torusref07_Has.f] using this
def meetL (a b : List Int) : List Int := a.filter (fun v => decide (v ∈ b))
theorem meetL_cons (v : Int) (a b : List Int) : meetL (v :: a) b = if v ∈ b then v :: meetL a b else meetL a b := by
  by_cases c : v ∈ b <;> simp [meetL, c]
theorem meetL_len (a b : List Int) : (meetL a b).length ≤ a.length := List.length_filter_le _ _
theorem smeet_l (a b : List Int) (ha : a.length ≤ 1000) (hb : b.length ≤ 1000) : ∀ (m i : Nat) (acc : List Int), m = a.length - i → i ≤ a.length → acc.length ≤ i →
    Ev (fun k => simplex_Meet.l0 k b acc a (a.length : Int) (i : Int)) (acc ++ meetL (a.drop i) b)
  | 0, i, acc, hm, hi, hc => by
    rw [List.drop_of_length_le (by omega)]
    refine ev_succ ?_
    simp only [simplex_Meet.l0, if_neg (show ¬ ((i : Int) < (a.length : Int)) by omega), meetL, List.filter_nil, List.append_nil]
    exact Ev.now _
  | m + 1, i, acc, hm, hi, hc => by
    rw [drop_cons a i (by omega), meetL_cons]
    refine ev_succ ?_
    simp only [simplex_Meet.l0, if_pos (show ((i : Int) < (a.length : Int)) by omega), if_pos (show (0 : Int) ≤ (i : Int) by omega), wrap_nat i (by omega)]
    refine (ev_bind (con_ev b (rd a (i : Int)) hb)).mpr ?_
    by_cases c : rd a (i : Int) ∈ b
    · simp only [decide_eq_true c, if_true, if_pos c, if_pos (show acc.length < 17592186044416 by omega)]
      have := smeet_l a b ha hb m (i + 1) (acc ++ [rd a (i : Int)]) (by omega) (by omega) (by simp; omega)
      simpa using this
    · simp only [decide_eq_false c, Bool.false_eq_true, if_false, if_neg c]
      exact smeet_l a b ha hb m (i + 1) acc (by omega) (by omega) (by omega)
theorem smeet_ev (a b : List Int) (ha : a.length ≤ 1000) (hb : b.length ≤ 1000) : Ev (fun k => simplex_Meet.f k a b) (meetL a b) := by
  have := smeet_l a b ha hb a.length 0 [] (by omega) (by omega) (by simp)
  simpa [simplex_Meet.f] using this
theorem rmeet_l (a b : List Int) (ha : a.length ≤ 1000) (hb : b.length ≤ 1000) : ∀ (m i : Nat) (acc : List Int), m = a.length - i → i ≤ a.length → acc.length ≤ i →
    Ev (fun k => torusref07_Meet.l0 k a b acc (i : Int)) (acc ++ meetL (a.drop i) b)
  | 0, i, acc, hm, hi, hc => by
    rw [List.drop_of_length_le (by omega)]
    refine ev_succ ?_
    simp only [torusref07_Meet.l0, if_neg (show ¬ ((i : Int) < (a.length : Int)) by omega), meetL, List.filter_nil, List.append_nil]
    exact Ev.now _
  | m + 1, i, acc, hm, hi, hc => by
    rw [drop_cons a i (by omega), meetL_cons]
    refine ev_succ ?_
    simp only [torusref07_Meet.l0, if_pos (show ((i : Int) < (a.length : Int)) by omega), if_pos (show (0 : Int) ≤ (i : Int) by omega), wrap_nat i (by omega)]
    refine (ev_bind (in_ev b (rd a (i : Int)) hb)).mpr ?_
    by_cases c : rd a (i : Int) ∈ b
    · simp only [decide_eq_true c, if_true, if_pos c, if_pos (show acc.length < 17592186044416 by omega)]
      have := rmeet_l a b ha hb m (i + 1) (acc ++ [rd a (i : Int)]) (by omega) (by omega) (by simp; omega)
      simpa using this
    · simp only [decide_eq_false c, Bool.false_eq_true, if_false, if_neg c]
      exact rmeet_l a b ha hb m (i + 1) acc (by omega) (by omega) (by omega)
theorem rmeet_ev (a b : List Int) (ha : a.length ≤ 1000) (hb : b.length ≤ 1000) : Ev (fun k => torusref07_Meet.f k a b) (meetL a b) := by
  have := rmeet_l a b ha hb a.length 0 [] (by omega) (by omega) (by simp)
  simpa [torusref07_Meet.f] using this
end Go.Proofs.YticckanjfdcpaaaDoor.PSimplex
namespace Go.Proofs.YticckanjfdcpaaaDoor.Pure
open Go.RowKit Go.Proofs.YticckanjfdcpaaaDoor.PSimplex Go.Proofs.YticckanjfdcpaaaDoorW.PrintWords Go.Proofs.YticckanjfdcpaaaDoorW.PrintLast
set_option linter.unusedVariables false
set_option linter.unusedSimpArgs false

theorem SimplexMatches : toruslaw07_SimplexMatches.Pure := by
  intro a b _ _ _ _ _ _
  apply Ev.rounds
  have long : Ev (fun k => toruslaw07_SimplexMatches.j0 k a b true) true := by
    refine ev_succ ?_
    simp only [toruslaw07_SimplexMatches.j0, if_true]
    exact law_long awake_ev (Ev.now _)
  unfold toruslaw07_SimplexMatches.f
  by_cases c : (a.length : Int) > 200
  · simp only [if_pos c]
    exact long
  · simp only [if_neg c]
    by_cases c' : (b.length : Int) > 200
    · simp only [decide_eq_true c']
      exact long
    · simp only [decide_eq_false c']
      refine ev_succ ?_
      simp only [toruslaw07_SimplexMatches.j0, Bool.false_eq_true, if_false, Option.bind_some, List.nil_append, List.length_nil, if_pos (show 0 + a.length < 17592186044416 by omega), if_pos (show 0 + b.length < 17592186044416 by omega)]
      have ha : a.length ≤ 1000 := by omega
      have hb : b.length ≤ 1000 := by omega
      refine law_long (scmp_ev a b (by omega)) ?_
      refine law_long (shas_ev a b ha hb) ?_
      refine law_long (smeet_ev a b ha hb) ?_
      refine law_long (scheck_ev a) ?_
      refine law_long (scheck_ev b) ?_
      refine law_long (rcmp_ev a b (by omega)) ?_
      simp only [if_true]
      refine law_long (rhas_ev a b ha hb) ?_
      simp only [beq_self_eq_true, if_true]
      refine law_long (rmeet_ev a b ha hb) ?_
      refine law_long (rcmp_ev _ _ (by have := meetL_len a b; omega)) ?_
      simp only [if_pos (cm_self (meetL a b)), if_true]
      refine law_long (rcheck_ev a) ?_
      simp only [if_true]
      refine law_long (rcheck_ev b) ?_
      simp only [if_true]
      refine law_long (rcmp_ev a a (by omega)) ?_
      simp only [if_pos (cm_self a), if_true]
      refine law_long (rcmp_ev b b (by omega)) ?_
      simp only [if_pos (cm_self b), if_true]
      exact law_long awake_ev (Ev.now _)
end Go.Proofs.YticckanjfdcpaaaDoor.Pure
