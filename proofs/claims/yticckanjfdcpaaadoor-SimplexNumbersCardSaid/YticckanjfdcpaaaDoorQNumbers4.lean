/- Go functions as plain Lean functions, each with a proof that the Go code computes just that, and facts on them; conditions: those that each theorem states. -/
import Derived.Test.YticckanjfdcpaaaDoorQNumbers3
namespace Go.Proofs.YticckanjfdcpaaaDoor.PSimplex
open Go.RowKit Go.Proofs.YticckanjfdcpaaaDoorW.PrintWords Go.Proofs.YticckanjfdcpaaaDoorW.PrintLast Go.Proofs.YticckanjfdcpaaaDoorW.PrintMore
set_option linter.unusedVariables false
set_option linter.unusedSimpArgs false

theorem con_l (l : List Int) (x : Int) (hl : l.length ≤ 1000) : ∀ (m i : Nat), m = l.length - i → i ≤ l.length →
    Ev (fun k => (api_Simplex_int_64.l0 k l x (l.length : Int) (i : Int)).bind fun t => some (decide (t ≥ 0))) (decide (x ∈ l.drop i))
  | 0, i, hm, hi => by
    rw [List.drop_of_length_le (by omega)]
    refine ev_succ ?_
    simp only [api_Simplex_int_64.l0, if_neg (show ¬ ((i : Int) < (l.length : Int)) by omega), Option.bind_some]
    exact Ev.now _
  | m + 1, i, hm, hi => by
    have ih := con_l l x hl m (i + 1) (by omega) (by omega)
    rw [drop_cons l i (by omega)]
    refine ev_succ ?_
    simp only [api_Simplex_int_64.l0, if_pos (show ((i : Int) < (l.length : Int)) by omega), if_pos (show (0 : Int) ≤ (i : Int) by omega), wrap_nat i (by omega)]
    by_cases c : x = rd l (i : Int)
    · simp only [if_pos c, Option.bind_some]
      have e : decide (x ∈ rd l (i : Int) :: l.drop (i + 1)) = decide ((i : Int) ≥ 0) := by rw [decide_eq_true (show x ∈ rd l (i : Int) :: l.drop (i + 1) by simp [c]), decide_eq_true (by omega)]
      rw [e]
      exact Ev.now _
    · simp only [if_neg c]
      have e : decide (x ∈ rd l (i : Int) :: l.drop (i + 1)) = decide (x ∈ l.drop (i + 1)) := by simp [c]
      rw [e]
      exact ih
theorem con_ev (l : List Int) (x : Int) (hl : l.length ≤ 1000) : Ev (fun k => api_Simplex_int_49.f k l x) (decide (x ∈ l)) := by
  have := con_l l x hl l.length 0 (by omega) (by omega)
  simpa [api_Simplex_int_49.f, api_Simplex_int_64.f] using this
theorem in_l (l : List Int) (x : Int) (hl : l.length ≤ 1000) : ∀ (m i : Nat), m = l.length - i → i ≤ l.length → Ev (fun k => torusref07_In.l0 k l x (i : Int)) (decide (x ∈ l.drop i))
  | 0, i, hm, hi => by
    rw [List.drop_of_length_le (by omega)]
    refine ev_succ ?_
    simp only [torusref07_In.l0, if_neg (show ¬ ((i : Int) < (l.length : Int)) by omega)]
    exact Ev.now _
  | m + 1, i, hm, hi => by
    have ih := in_l l x hl m (i + 1) (by omega) (by omega)
    rw [drop_cons l i (by omega)]
    refine ev_succ ?_
    simp only [torusref07_In.l0, if_pos (show ((i : Int) < (l.length : Int)) by omega), if_pos (show (0 : Int) ≤ (i : Int) by omega), wrap_nat i (by omega)]
    by_cases c : rd l (i : Int) = x
    · simp only [if_pos c]
      rw [decide_eq_true (show x ∈ rd l (i : Int) :: l.drop (i + 1) by simp [c])]
      exact Ev.now _
    · simp only [if_neg c]
      have e : decide (x ∈ rd l (i : Int) :: l.drop (i + 1)) = decide (x ∈ l.drop (i + 1)) := by
        have c' : ¬ (x = rd l (i : Int)) := fun h => c h.symm
        simp [c']
      rw [e]
      exact ih
theorem in_ev (l : List Int) (x : Int) (hl : l.length ≤ 1000) : Ev (fun k => torusref07_In.f k l x) (decide (x ∈ l)) := by
  have := in_l l x hl l.length 0 (by omega) (by omega)
  simpa [torusref07_In.f] using this
def hasB (a b : List Int) : Bool := b.all (fun v => decide (v ∈ a))
theorem shas_l (a b : List Int) (ha : a.length ≤ 1000) (hb : b.length ≤ 1000) : ∀ (m i : Nat), m = b.length - i → i ≤ b.length →
    Ev (fun k => (has_ix.l0 k b a (b.length : Int) (i : Int)).bind fun t => some (!(decide (t ≥ 0)))) (hasB a (b.drop i))
  | 0, i, hm, hi => by
    rw [List.drop_of_length_le (by omega)]
    refine ev_succ ?_
    simp only [has_ix.l0, if_neg (show ¬ ((i : Int) < (b.length : Int)) by omega), Option.bind_some]
    exact Ev.now _
  | m + 1, i, hm, hi => by
    have ih := shas_l a b ha hb m (i + 1) (by omega) (by omega)
    rw [drop_cons b i (by omega)]
    refine ev_succ ?_
    simp only [has_ix.l0, if_pos (show ((i : Int) < (b.length : Int)) by omega), if_pos (show (0 : Int) ≤ (i : Int) by omega), wrap_nat i (by omega), Option.bind_assoc]
    refine (ev_bind (con_ev a (rd b (i : Int)) ha)).mpr ?_
    by_cases c : rd b (i : Int) ∈ a
    · simp only [decide_eq_true c, if_true]
      have e : hasB a (rd b (i : Int) :: b.drop (i + 1)) = hasB a (b.drop (i + 1)) := by simp [hasB, c]
      rw [e]
      exact ih
    · simp only [decide_eq_false c, Bool.false_eq_true, if_false, Option.bind_some]
      have e : hasB a (rd b (i : Int) :: b.drop (i + 1)) = !(decide ((i : Int) ≥ 0)) := by simp [hasB, c]
      rw [e]
      exact Ev.now _
theorem shas_ev (a b : List Int) (ha : a.length ≤ 1000) (hb : b.length ≤ 1000) : Ev (fun k => simplex_Has.f k a b) (hasB a b) := by
  have := shas_l a b ha hb b.length 0 (by omega) (by omega)
  simpa [simplex_Has.f] using this
theorem rhas_l (a b : List Int) (ha : a.length ≤ 1000) (hb : b.length ≤ 1000) : ∀ (m i : Nat), m = b.length - i → i ≤ b.length → Ev (fun k => torusref07_Has.l0 k a b (i : Int)) (hasB a (b.drop i))
  | 0, i, hm, hi => by
    rw [List.drop_of_length_le (by omega)]
    refine ev_succ ?_
    simp only [torusref07_Has.l0, if_neg (show ¬ ((i : Int) < (b.length : Int)) by omega)]
    exact Ev.now _
  | m + 1, i, hm, hi => by
    have ih := rhas_l a b ha hb m (i + 1) (by omega) (by omega)
    rw [drop_cons b i (by omega)]
    refine ev_succ ?_
    simp only [torusref07_Has.l0, if_pos (show ((i : Int) < (b.length : Int)) by omega), if_pos (show (0 : Int) ≤ (i : Int) by omega), wrap_nat i (by omega)]
    refine (ev_bind (in_ev a (rd b (i : Int)) ha)).mpr ?_
    by_cases c : rd b (i : Int) ∈ a
    · simp only [decide_eq_true c, if_true]
      have e : hasB a (rd b (i : Int) :: b.drop (i + 1)) = hasB a (b.drop (i + 1)) := by simp [hasB, c]
      rw [e]
      exact ih
    · simp only [decide_eq_false c, Bool.false_eq_true, if_false]
      have e : hasB a (rd b (i : Int) :: b.drop (i + 1)) = false := by simp [hasB, c]
      rw [e]
      exact Ev.now _
theorem rhas_ev (a b : List Int) (ha : a.length ≤ 1000) (hb : b.length ≤ 1000) : Ev (fun k => torusref07_Has.f k a b) (hasB a b) := by
  have := rhas_l a b ha hb b.length 0 (by omega) (by omega)
  simpa [torusref07_Has.f] using this
def meetL (a b : List Int) : List Int := a.filter (fun v => decide (v ∈ b))
theorem meetL_cons (v : Int) (a b : List Int) : meetL (v :: a) b = if v ∈ b then v :: meetL a b else meetL a b := by
  by_cases c : v ∈ b <;> simp [meetL, c]
theorem meetL_len (a b : List Int) : (meetL a b).length ≤ a.length := List.length_filter_le _ _
theorem smeet_l (a b : List Int) (ha : a.length ≤ 1000) (hb : b.length ≤ 1000) : ∀ (m i : Nat) (acc : List Int), m = a.length - i → i ≤ a.length → acc.length ≤ i →
    Ev (fun k => simplex_Meet.l0 k b acc a (a.length : Int) (i : Int)) (acc ++ meetL (a.drop i) b)
  | 0, i, acc, hm, hi, hc => by
    rw [List.drop_of_length_le (by omega)]
    refine ev_succ ?_
    simp only [simplex_Meet.l0, if_neg (show ¬ ((i : Int) < (a.length : Int)) by omega), meetL, List.filter_nil, List.append_nil]
    exact Ev.now _
  | m + 1, i, acc, hm, hi, hc => by
    rw [drop_cons a i (by omega), meetL_cons]
    refine ev_succ ?_
    simp only [simplex_Meet.l0, if_pos (show ((i : Int) < (a.length : Int)) by omega), if_pos (show (0 : Int) ≤ (i : Int) by omega), wrap_nat i (by omega)]
    refine (ev_bind (con_ev b (rd a (i : Int)) hb)).mpr ?_
    by_cases c : rd a (i : Int) ∈ b
    · simp only [decide_eq_true c, if_true, if_pos c, if_pos (show acc.length < 17592186044416 by omega)]
      have := smeet_l a b ha hb m (i + 1) (acc ++ [rd a (i : Int)]) (by omega) (by omega) (by simp; omega)
      simpa using this
    · simp only [decide_eq_false c, Bool.false_eq_true, if_false, if_neg c]
      exact smeet_l a b ha hb m (i + 1) acc (by omega) (by omega) (by omega)
theorem smeet_ev (a b : List Int) (ha : a.length ≤ 1000) (hb : b.length ≤ 1000) : Ev (fun k => simplex_Meet.f k a b) (meetL a b) := by
  have := smeet_l a b ha hb a.length 0 [] (by omega) (by omega) (by simp)
  simpa [simplex_Meet.f] using this
theorem rmeet_l (a b : List Int) (ha : a.length ≤ 1000) (hb : b.length ≤ 1000) : ∀ (m i : Nat) (acc : List Int), m = a.length - i → i ≤ a.length → acc.length ≤ i →
    Ev (fun k => torusref07_Meet.l0 k a b acc (i : Int)) (acc ++ meetL (a.drop i) b)
  | 0, i, acc, hm, hi, hc => by
    rw [List.drop_of_length_le (by omega)]
    refine ev_succ ?_
    simp only [torusref07_Meet.l0, if_neg (show ¬ ((i : Int) < (a.length : Int)) by omega), meetL, List.filter_nil, List.append_nil]
    exact Ev.now _
  | m + 1, i, acc, hm, hi, hc => by
    rw [drop_cons a i (by omega), meetL_cons]
    refine ev_succ ?_
    simp only [torusref07_Meet.l0, if_pos (show ((i : Int) < (a.length : Int)) by omega), if_pos (show (0 : Int) ≤ (i : Int) by omega), wrap_nat i (by omega)]
    refine (ev_bind (in_ev b (rd a (i : Int)) hb)).mpr ?_
    by_cases c : rd a (i : Int) ∈ b
    · simp only [decide_eq_true c, if_true, if_pos c, if_pos (show acc.length < 17592186044416 by omega)]
      have := rmeet_l a b ha hb m (i + 1) (acc ++ [rd a (i : Int)]) (by omega) (by omega) (by simp; omega)
      simpa using this
    · simp only [decide_eq_false c, Bool.false_eq_true, if_false, if_neg c]
      exact rmeet_l a b ha hb m (i + 1) acc (by omega) (by omega) (by omega)
theorem rmeet_ev (a b : List Int) (ha : a.length ≤ 1000) (hb : b.length ≤ 1000) : Ev (fun k => torusref07_Meet.f k a b) (meetL a b) := by
  have := rmeet_l a b ha hb a.length 0 [] (by omega) (by omega) (by simp)
  simpa [torusref07_Meet.f] using this
end Go.Proofs.YticckanjfdcpaaaDoor.PSimplex
namespace Go.Proofs.YticckanjfdcpaaaDoor.PSimplex
open Go.RowKit Go.Proofs.YticckanjfdcpaaaDoorW.PrintWords Go.Proofs.YticckanjfdcpaaaDoorW.PrintLast Go.Proofs.YticckanjfdcpaaaDoorW.PrintMore
set_option linter.unusedVariables false
set_option linter.unusedSimpArgs false

theorem insR_count (f : Int → Bool) : ∀ R x, (insR R x).countP f = (x :: R).countP f
  | [], x => rfl
  | a :: R, x => by
    unfold insR
    split
    · have := insR_count f R x
      simp only [List.countP_cons] at this ⊢
      omega
    · rfl
theorem srt_count (f : Int → Bool) : ∀ B R, (srt R B).countP f = R.countP f + B.countP f
  | [], R => by simp [srt]
  | x :: B, R => by
    rw [srt, srt_count f B, insR_count]
    simp only [List.countP_cons]
    omega
theorem desc_pair : ∀ R, desc R → R.Pairwise (fun a b => b ≤ a)
  | [], _ => List.Pairwise.nil
  | a :: R, h => List.Pairwise.cons h.1 (desc_pair R h.2)
theorem srt_pair : ∀ B R, desc R → (srt R B).Pairwise (fun a b => a ≤ b)
  | [], R, h => by
    rw [srt, List.pairwise_reverse]
    exact desc_pair R h
  | x :: B, R, h => srt_pair B _ (insR_desc R x h)
theorem asc_of_pair : ∀ (l : List Int), l.Pairwise (fun a b => a ≤ b) → (∀ p : Int, l.countP (· == p) ≤ 1) → asc l = true
  | [], _, _ => rfl
  | [_], _, _ => rfl
  | x :: y :: t, h, hc => by
    have h1 := (List.pairwise_cons.1 h).1 y List.mem_cons_self
    have h2 : x ≠ y := fun e => by
      have := hc x
      rw [List.countP_cons, List.countP_cons, e] at this
      simp at this
    have h3 := asc_of_pair (y :: t) (List.pairwise_cons.1 h).2 (fun p => by
      have := hc p
      rw [List.countP_cons] at this
      omega)
    simp only [asc, Bool.and_eq_true, decide_eq_true_eq]
    exact ⟨by omega, h3⟩
theorem any_count (t : List Int) : t.any bad = decide (0 < t.countP bad) := by
  rw [Bool.eq_iff_iff]
  simp [List.countP_pos_iff]
theorem srt_ck (l : List Int) (h1 : 1 ≤ l.length) (h2 : l.length ≤ 5) (h3 : l.any bad = false) (h4 : ∀ p : Int, l.countP (· == p) ≤ 1) : ck (srt [] l) = 0 := by
  refine ck_of ?_ ?_ ?_ ?_
  · rw [srt_len]; simpa using h1
  · rw [srt_len]; simpa using h2
  · rw [any_count, srt_count]
    rw [any_count] at h3
    simpa using h3
  · exact asc_of_pair _ (srt_pair l [] trivial) (fun p => by rw [srt_count]; simpa using h4 p)
theorem vfin (acc : List Int) (h2 : acc.length ≤ 5) (h3 : acc.any bad = false) (h4 : ∀ p : Int, acc.countP (· == p) ≤ 1) (l : List Int) (i : Int) :
    ∃ s, Ev (fun k => torusref07_Valid.j1 k l 5 64 acc i false) s ∧ ck s = 0 := by
  by_cases c : acc.length = 0
  · have e : acc = [] := List.length_eq_zero_iff.1 c
    subst e
    refine ⟨srt [] [0], ?_, by decide⟩
    refine ev_succ ?_
    simp only [torusref07_Valid.j1, Bool.false_eq_true, if_false, List.length_nil, if_pos (show ((0 : Nat) : Int) = 0 from rfl), if_pos (show 0 < 17592186044416 by omega), List.nil_append]
    refine (ev_bind (rsorted_ev [0] (by simp))).mpr ?_
    exact Ev.now _
  · refine ⟨srt [] acc, ?_, srt_ck acc (by omega) h2 h3 h4⟩
    refine ev_succ ?_
    simp only [torusref07_Valid.j1, Bool.false_eq_true, if_false, if_neg (show ¬ ((acc.length : Int) = 0) by omega)]
    refine (ev_bind (rsorted_ev acc (by omega))).mpr ?_
    exact Ev.now _
theorem val_l (l : List Int) (hl : l.length ≤ 1000) (hw : ∀ x ∈ l, -9223372036854775808 ≤ x ∧ x ≤ 9223372036854775807) : ∀ (m i : Nat) (acc : List Int), m = l.length - i → i ≤ l.length → acc.length ≤ 5 → acc.any bad = false → (∀ p : Int, acc.countP (· == p) ≤ 1) →
    ∃ s, Ev (fun k => torusref07_Valid.l0 k l 5 64 acc (i : Int)) s ∧ ck s = 0
  | 0, i, acc, hm, hi, h2, h3, h4 => by
    obtain ⟨s, hs, hk⟩ := vfin acc h2 h3 h4 l (i : Int)
    refine ⟨s, ev_succ ?_, hk⟩
    simp only [torusref07_Valid.l0, if_neg (show ¬ ((i : Int) < (l.length : Int)) by omega)]
    exact hs
  | m + 1, i, acc, hm, hi, h2, h3, h4 => by
    by_cases c : acc.length < 5
    · obtain ⟨v, hv⟩ : ∃ v, v = Int.tmod (wrap64 (Int.tmod (rd l (i : Int)) 64 + 64)) 64 := ⟨_, rfl⟩
      have hvb : 0 ≤ v ∧ v < 64 := by
        have h5 : -64 < Int.tmod (rd l (i : Int)) 64 ∧ Int.tmod (rd l (i : Int)) 64 < 64 := ⟨Int.lt_tmod_of_pos _ (by decide), Int.tmod_lt_of_pos _ (by decide)⟩
        rw [hv, wrap_id (by omega) (by omega), Int.tmod_eq_emod_of_nonneg (by omega)]
        omega
      by_cases c2 : v ∈ acc
      · obtain ⟨s, hs, hk⟩ := val_l l hl hw m (i + 1) acc (by omega) (by omega) h2 h3 h4
        refine ⟨s, ev_succ ?_, hk⟩
        simp only [torusref07_Valid.l0, if_pos (show ((i : Int) < (l.length : Int)) by omega), decide_eq_true (show (acc.length : Int) < 5 by omega)]
        refine ev_succ ?_
        simp only [torusref07_Valid.j1, if_true, if_pos (show (0 : Int) ≤ (i : Int) by omega), if_pos (show ((i : Int) < (l.length : Int)) by omega), if_neg (show ¬ ((64 : Int) = 0) by omega), ← hv, wrap_nat i (by omega)]
        refine (ev_bind (in_ev acc v (by omega))).mpr ?_
        simp only [decide_eq_true c2, if_true]
        exact hs
      · obtain ⟨s, hs, hk⟩ := val_l l hl hw m (i + 1) (acc ++ [v]) (by omega) (by omega) (by simp; omega) (by
            rw [List.any_append, h3]
            simp [bad]
            omega) (fun p => by
            have := h4 p
            rw [List.countP_append, List.countP_cons, List.countP_nil]
            by_cases e : v = p
            · have h0 : acc.countP (· == p) = 0 := by
                rw [List.countP_eq_zero]
                intro b hb hbp
                exact c2 (by rw [e]; simpa [show b = p by simpa using hbp] using hb)
              rw [h0]
              split <;> omega
            · simp [e]
              exact this)
        refine ⟨s, ev_succ ?_, hk⟩
        simp only [torusref07_Valid.l0, if_pos (show ((i : Int) < (l.length : Int)) by omega), decide_eq_true (show (acc.length : Int) < 5 by omega)]
        refine ev_succ ?_
        simp only [torusref07_Valid.j1, if_true, if_pos (show (0 : Int) ≤ (i : Int) by omega), if_pos (show ((i : Int) < (l.length : Int)) by omega), if_neg (show ¬ ((64 : Int) = 0) by omega), ← hv, wrap_nat i (by omega)]
        refine (ev_bind (in_ev acc v (by omega))).mpr ?_
        simp only [decide_eq_false c2, Bool.false_eq_true, if_false, if_pos (show acc.length < 17592186044416 by omega)]
        exact hs
    · obtain ⟨s, hs, hk⟩ := vfin acc h2 h3 h4 l (i : Int)
      refine ⟨s, ev_succ ?_, hk⟩
      simp only [torusref07_Valid.l0, if_pos (show ((i : Int) < (l.length : Int)) by omega), decide_eq_false (show ¬ ((acc.length : Int) < 5) by omega)]
      exact hs
theorem valid_ev (l : List Int) (hl : l.length ≤ 1000) (hw : ∀ x ∈ l, -9223372036854775808 ≤ x ∧ x ≤ 9223372036854775807) : ∃ s, Ev (fun k => torusref07_Valid.f k l 5 64) s ∧ ck s = 0 := by
  have := val_l l hl hw l.length 0 [] (by omega) (by omega) (by simp) (by simp) (by simp)
  simpa [torusref07_Valid.f] using this
theorem asc_take : ∀ (l : List Int) (n : Nat), asc l = true → asc (l.take n) = true
  | [], n, h => by simp [asc]
  | x :: t, 0, h => by simp [asc]
  | [x], n + 1, h => by simp [asc]
  | x :: y :: t, 1, h => by simp [asc]
  | x :: y :: t, n + 2, h => by
    simp only [asc, Bool.and_eq_true] at h
    have := asc_take (y :: t) (n + 1) h.2
    simp only [List.take_succ_cons, asc, Bool.and_eq_true] at this ⊢
    exact ⟨h.1, this⟩
theorem ck_take (l : List Int) (n : Nat) (h : ck l = 0) (hn : 1 ≤ n) : ck (l.take n) = 0 := by
  obtain ⟨h1, h2, h3, h4⟩ := ck_ok h
  refine ck_of (by simp; omega) (by simp; omega) ?_ (asc_take l n h4)
  rw [List.any_eq_false] at h3 ⊢
  exact fun x hx => h3 x (List.mem_of_mem_take hx)
end Go.Proofs.YticckanjfdcpaaaDoor.PSimplex
namespace Go.Proofs.YticckanjfdcpaaaDoor.Pure
open Go.RowKit Go.Proofs.YticckanjfdcpaaaDoor.PSimplex Go.Proofs.YticckanjfdcpaaaDoorW.PrintWords Go.Proofs.YticckanjfdcpaaaDoorW.PrintLast
set_option linter.unusedVariables false
set_option linter.unusedSimpArgs false

/-- The number of the first j vertices. -/
def pn (s : List Int) : Nat → Int
  | 0 => 0
  | j + 1 => pn s j + bin (rd s (j : Int)).toNat (j + 1)
theorem num_pn (s : List Int) : ∀ (m i : Nat), m = s.length - i → i ≤ s.length → num (s.drop i) i = pn s s.length - pn s i
  | 0, i, hm, hi => by
    have e : i = s.length := by omega
    rw [List.drop_of_length_le (by omega), e]
    simp [num]
  | m + 1, i, hm, hi => by
    have := num_pn s m (i + 1) (by omega) (by omega)
    rw [num_drop s i (by omega), this]
    simp only [pn]
    omega
theorem num_pn0 (s : List Int) : num s 0 = pn s s.length := by
  have := num_pn s s.length 0 (by omega) (by omega)
  simpa [pn] using this
theorem bin_one : ∀ n : Nat, n < 65 → bin n 1 = (n : Int) := by decide +kernel
theorem asc_rd (s : List Int) (h : asc s = true) (i : Nat) (hi : i + 1 < s.length) : rd s (i : Int) < rd s ((i + 1 : Nat) : Int) := by
  have h1 : ∀ (l : List Int) (n : Nat), asc l = true → asc (l.drop n) = true := by
    intro l
    induction l with
    | nil => intro n _; simp [asc]
    | cons x t ih =>
      intro n h
      cases n with
      | zero => exact h
      | succ n =>
        refine ih n ?_
        cases t with
        | nil => rfl
        | cons y t => simp only [asc, Bool.and_eq_true] at h; exact h.2
  have h2 := h1 s i h
  rw [asc_cons s i hi] at h2
  simp only [Bool.and_eq_true, decide_eq_true_eq] at h2
  exact h2.1
theorem pn_nonneg (s : List Int) (hs : ck s = 0) : ∀ j, j ≤ s.length → 0 ≤ pn s j
  | 0, _ => by simp [pn]
  | j + 1, h => by
    have ok := ck_ok hs
    have := pn_nonneg s hs j (by omega)
    have hr := bad_rd s ok.2.2.1 j (by omega)
    have ht := (bin_tab (rd s (j : Int)).toNat (by omega) (j + 1) (by omega)).2.2
    simp only [pn]
    omega
theorem pn_lt (s : List Int) (hs : ck s = 0) : ∀ j, j < s.length → pn s (j + 1) < bin ((rd s (j : Int)).toNat + 1) (j + 1)
  | 0, h => by
    have ok := ck_ok hs
    have hr := bad_rd s ok.2.2.1 0 h
    simp only [pn]
    rw [bin_one _ (by omega), bin_one _ (by omega)]
    omega
  | j + 1, h => by
    have ok := ck_ok hs
    have ih := pn_lt s hs j (by omega)
    have hr := bad_rd s ok.2.2.1 (j + 1) h
    have hr0 := bad_rd s ok.2.2.1 j (by omega)
    have ha := asc_rd s ok.2.2.2 j h
    have hp := bin_pascal (rd s ((j + 1 : Nat) : Int)).toNat (by omega) (j + 1) (by omega)
    have hm := bin_mono ((rd s ((j + 1 : Nat) : Int)).toNat - ((rd s (j : Int)).toNat + 1)) ((rd s (j : Int)).toNat + 1) (j + 1) (by omega) (by omega)
    rw [show (rd s (j : Int)).toNat + 1 + ((rd s ((j + 1 : Nat) : Int)).toNat - ((rd s (j : Int)).toNat + 1)) = (rd s ((j + 1 : Nat) : Int)).toNat by omega] at hm
    simp only [pn] at ih ⊢
    omega
theorem top_is (s : List Int) (hs : ck s = 0) (j : Nat) (h : j < s.length) : topF (pn s (j + 1)) (j + 1) 64 = (rd s (j : Int)).toNat := by
  have ok := ck_ok hs
  have hr := bad_rd s ok.2.2.1 j h
  have hlt := pn_lt s hs j h
  have h0 := pn_nonneg s hs j (by omega)
  have h1 := pn_nonneg s hs (j + 1) (by omega)
  have hle : bin (rd s (j : Int)).toNat (j + 1) ≤ pn s (j + 1) := by simp only [pn]; omega
  have ht := topF_lt (pn s (j + 1)) (j + 1) 64 (by omega)
  by_cases c : topF (pn s (j + 1)) (j + 1) 64 < (rd s (j : Int)).toNat
  · have := topF_gt (pn s (j + 1)) (j + 1) 64 _ c (by omega)
    omega
  · by_cases c' : (rd s (j : Int)).toNat < topF (pn s (j + 1)) (j + 1) 64
    · have h2 := topF_le (pn s (j + 1)) (j + 1) h1 (by omega) (by omega) 64 (by omega)
      have h3 := bin_mono (topF (pn s (j + 1)) (j + 1) 64 - ((rd s (j : Int)).toNat + 1)) ((rd s (j : Int)).toNat + 1) (j + 1) (by omega) (by omega)
      rw [show (rd s (j : Int)).toNat + 1 + (topF (pn s (j + 1)) (j + 1) 64 - ((rd s (j : Int)).toNat + 1)) = topF (pn s (j + 1)) (j + 1) 64 by omega] at h3
      omega
    · omega
theorem run_is (s : List Int) (hs : ck s = 0) : ∀ (j : Nat) (out : List Int), j ≤ s.length → j ≤ out.length → run j (pn s j) out = s.take j ++ out.drop j
  | 0, out, _, _ => by simp [run]
  | j + 1, out, h, ho => by
    have ok := ck_ok hs
    have hr := bad_rd s ok.2.2.1 j (by omega)
    have e : pn s (j + 1) - bin (rd s (j : Int)).toNat (j + 1) = pn s j := by simp only [pn]; omega
    rw [run, top_is s hs j (by omega), e, run_is s hs j _ (by omega) (by simp; omega)]
    have e2 : ((rd s (j : Int)).toNat : Int) = rd s (j : Int) := by omega
    have e3 : rd s (j : Int) = s[j] := by simp [rd, show j < s.length by omega]
    rw [e2, e3]
    have e4 : (out.set j s[j]).drop j = s[j] :: out.drop (j + 1) := by
      rw [List.drop_eq_getElem_cons (by simp; omega), List.getElem_set_self, List.drop_set_of_lt (by omega)]
    have e5 : s.take (j + 1) = s.take j ++ [s[j]] := by rw [List.take_succ_eq_append_getElem (by omega)]
    rw [e4, e5, List.append_assoc]
    rfl
theorem back (s : List Int) (hs : ck s = 0) : nb ((s.length : Int) - 1) (num s 0) = (s, 0) := by
  obtain ⟨h1, h2, h3, h4⟩ := ck_ok hs
  have h0 := pn_nonneg s hs s.length (by omega)
  have hlt := pn_lt s hs (s.length - 1) (by omega)
  have hr := bad_rd s h3 (s.length - 1) (by omega)
  rw [show s.length - 1 + 1 = s.length by omega] at hlt
  have hb := bin64_le ((rd s ((s.length - 1 : Nat) : Int)).toNat + 1) s.length (by omega) (by omega)
  unfold nb
  rw [num_pn0]
  have e : ((s.length : Int) - 1).toNat + 1 = s.length := by omega
  rw [if_neg (by omega), e, if_neg (by omega), run_is s hs s.length _ (by omega) (by simp)]
  simp
/-- Of two simplices with the same vertices behind the place i, the one that is less there has the less number. -/
theorem less_num (s t : List Int) (hs : ck s = 0) (ht : ck t = 0) (i : Nat) (his : i < s.length) (hit : i < t.length) (h : rd s (i : Int) < rd t (i : Int)) : pn s (i + 1) < pn t (i + 1) := by
  have oks := ck_ok hs
  have okt := ck_ok ht
  have h1 := pn_lt s hs i his
  have hrs := bad_rd s oks.2.2.1 i his
  have hrt := bad_rd t okt.2.2.1 i hit
  have h0 := pn_nonneg t ht i (by omega)
  have hm := bin_mono ((rd t (i : Int)).toNat - ((rd s (i : Int)).toNat + 1)) ((rd s (i : Int)).toNat + 1) (i + 1) (by omega) (by omega)
  rw [show (rd s (i : Int)).toNat + 1 + ((rd t (i : Int)).toNat - ((rd s (i : Int)).toNat + 1)) = (rd t (i : Int)).toNat by omega] at hm
  simp only [pn] at h1 ⊢
  omega
theorem loop (s t : List Int) (hs : ck s = 0) (ht : ck t = 0) (he : s.length = t.length) : ∀ (j : Nat), j ≤ s.length → pn s s.length - pn s j = pn t t.length - pn t j →
    Ev (fun k => toruslaw07_SimplexNumbers.l0 k s t (num s 0) (num t 0) ((j : Int) - 1)) true
  | 0, _, h => by
    refine ev_succ ?_
    simp only [toruslaw07_SimplexNumbers.l0, if_neg (show ¬ (((0 : Nat) : Int) - 1 ≥ 0) by omega)]
    have e : num s 0 = num t 0 := by rw [num_pn0, num_pn0]; simp only [pn] at h; omega
    rw [e, beq_self_eq_true]
    exact Ev.now _
  | j + 1, hj, h => by
    refine ev_succ ?_
    rw [show ((j + 1 : Nat) : Int) - 1 = (j : Int) by omega]
    have hl := (ck_ok hs).2.1
    simp only [toruslaw07_SimplexNumbers.l0, if_pos (show (j : Int) ≥ 0 by omega), if_pos (show (0 : Int) ≤ (j : Int) by omega), if_pos (show (j : Int) < (s.length : Int) by omega), if_pos (show (j : Int) < (t.length : Int) by omega)]
    by_cases c : rd s (j : Int) = rd t (j : Int)
    · simp only [if_pos c]
      rw [wrap_id (by omega) (by omega)]
      refine loop s t hs ht he j (by omega) ?_
      simp only [pn, c] at h
      omega
    · simp only [if_neg c]
      have key : (decide (rd s (j : Int) < rd t (j : Int)) == decide (num s 0 < num t 0)) = true ∧ (num s 0 != num t 0) = true := by
        rw [num_pn0, num_pn0]
        by_cases c2 : rd s (j : Int) < rd t (j : Int)
        · have := less_num s t hs ht j (by omega) (by omega) c2
          rw [decide_eq_true c2, decide_eq_true (show pn s s.length < pn t t.length by omega)]
          exact ⟨rfl, by simp; omega⟩
        · have := less_num t s ht hs j (by omega) (by omega) (by omega)
          rw [decide_eq_false c2, decide_eq_false (show ¬ (pn s s.length < pn t t.length) by omega)]
          exact ⟨rfl, by simp; omega⟩
      simp only [key.1, if_true, key.2]
      exact Ev.now _
theorem SimplexNumbers : toruslaw07_SimplexNumbers.Pure := by
  intro a b _ _ ha _ _ hb
  apply Ev.rounds
  have long : Ev (fun k => toruslaw07_SimplexNumbers.j0 k a b true) true := by
    refine ev_succ ?_
    simp only [toruslaw07_SimplexNumbers.j0, if_true]
    exact law_long awake_ev (Ev.now _)
  have wf : ∀ x : Int, (Lit.int .i64 x).wf = true → -9223372036854775808 ≤ x ∧ x ≤ 9223372036854775807 := fun x h => by
    simpa [Lit.wf, show IntKind.i64.min = -9223372036854775808 by decide, show IntKind.i64.max = 9223372036854775807 by decide] using h
  unfold toruslaw07_SimplexNumbers.f
  by_cases c1 : (a.length : Int) > 50
  · simp only [if_pos c1]; exact long
  simp only [if_neg c1]
  by_cases c2 : (b.length : Int) > 50
  · simp only [if_pos c2]; exact long
  simp only [if_neg c2]
  refine law_long awake_ev ?_
  refine ev_succ ?_
  simp only [toruslaw07_SimplexNumbers.j0, Bool.not_true, Bool.false_eq_true, if_false]
  obtain ⟨s, hs, ks⟩ := valid_ev a (by omega) (fun x hx => wf x (ha x hx))
  obtain ⟨t, ht, kt⟩ := valid_ev b (by omega) (fun x hx => wf x (hb x hx))
  refine law_long hs ?_
  refine law_long ht ?_
  have ls := ck_ok ks
  have lt := ck_ok kt
  obtain ⟨q, hq⟩ : ∃ q : Nat, q = min s.length t.length := ⟨_, rfl⟩
  have emn : mn (s.length : Int) (t.length : Int) = (q : Int) := by unfold mn; split <;> omega
  rw [emn]
  simp only [if_pos (show (0 : Int) ≤ (q : Int) by omega), if_pos (show (q : Int) ≤ (s.length : Int) by omega), if_pos (show (q : Int) ≤ (t.length : Int) by omega), Int.toNat_natCast, Option.bind_some]
  have ks' := ck_take s q ks (by omega)
  have kt' := ck_take t q kt (by omega)
  have es : (s.take q).length = q := by simp; omega
  have et : (t.take q).length = q := by simp; omega
  refine law_long (snum_ev (s.take q)) ?_
  refine law_long (snum_ev (t.take q)) ?_
  have ns : nu (s.take q) = (num (s.take q) 0, 0) := by unfold nu; rw [if_pos ks']
  have nt : nu (t.take q) = (num (t.take q) 0, 0) := by unfold nu; rw [if_pos kt']
  rw [ns, nt]
  refine law_long (snb_ev _ _) ?_
  have eb := back (s.take q) ks'
  rw [es] at eb
  rw [wrap_id (by omega) (by omega), eb]
  simp only [if_true]
  unfold toruslaw07_is.f
  simp only [if_true]
  refine law_long ((ev_bind (rcmp_ev (s.take q) (s.take q) (by omega))).mpr (Ev.now _)) ?_
  simp only [cm_self, beq_self_eq_true, Bool.not_true]
  refine ev_succ ?_
  simp only [toruslaw07_SimplexNumbers.j1, Bool.false_eq_true, if_false]
  rw [wrap_id (by omega) (by omega)]
  exact loop (s.take q) (t.take q) ks' kt' (by omega) q (by omega) (by rw [es, et]; omega)
end Go.Proofs.YticckanjfdcpaaaDoor.Pure
