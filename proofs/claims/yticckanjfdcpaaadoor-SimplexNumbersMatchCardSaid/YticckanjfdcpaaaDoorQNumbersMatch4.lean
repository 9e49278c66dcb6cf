/- Go functions as plain Lean functions, each with a proof that the Go code computes just that, and facts on them; conditions: those that each theorem states. -/
import Derived.Test.YticckanjfdcpaaaDoorQNumbersMatch3
namespace Go.Proofs.YticckanjfdcpaaaDoor.PSimplex
open Go.RowKit Go.Proofs.YticckanjfdcpaaaDoorW.PrintWords Go.Proofs.YticckanjfdcpaaaDoorW.PrintLast Go.Proofs.YticckanjfdcpaaaDoorW.PrintMore
set_option linter.unusedVariables false
set_option linter.unusedSimpArgs false
set_option maxRecDepth 100000

/-- A binomial coefficient. -/
def bin (n k : Nat) : Int := (simplex_over.f (n : Int) (k : Int)).getD 0
theorem bin_tab : ∀ n : Nat, n < 65 → ∀ k : Nat, k < 6 → simplex_over.f (n : Int) (k : Int) = some (bin n k) ∧ torusref07_Over.f 10 (n : Int) (k : Int) = some (bin n k) ∧ 0 ≤ bin n k ∧ bin n k ≤ 8000000 := by decide +kernel
theorem bin_pascal : ∀ n : Nat, n < 64 → ∀ k : Nat, k < 5 → bin (n + 1) (k + 1) = bin n k + bin n (k + 1) := by decide +kernel
theorem bin_low : ∀ n : Nat, n < 65 → ∀ k : Nat, k < 6 → n < k → bin n k = 0 := by decide +kernel
theorem over_at (a b : Int) (n k : Nat) (ha : a = (n : Int)) (hb : b = (k : Int)) (hn : n < 65) (hk : k < 6) : simplex_over.f a b = some (bin n k) := by rw [ha, hb]; exact (bin_tab n hn k hk).1
theorem rover_at (a b : Int) (n k : Nat) (ha : a = (n : Int)) (hb : b = (k : Int)) (hn : n < 65) (hk : k < 6) : Ev (fun q => torusref07_Over.f q a b) (bin n k) := by rw [ha, hb]; exact Ev.of (torusref07_Over.mono _ _) (bin_tab n hn k hk).2.1
theorem bin_mono : ∀ (d n k : Nat), n + d < 65 → k < 6 → bin n k ≤ bin (n + d) k
  | 0, n, k, h, hk => by simp
  | d + 1, n, k, h, hk => by
    have h1 := bin_mono d n k (by omega) hk
    cases k with
    | zero =>
      have e1 := bin_zero_ (n + d) (by omega)
      have e2 := bin_zero_ (n + (d + 1)) (by omega)
      omega
    | succ k =>
      have h2 := bin_pascal (n + d) (by omega) k (by omega)
      have h3 := (bin_tab (n + d) (by omega) k (by omega)).2.2.1
      rw [show n + (d + 1) = n + d + 1 by omega]
      omega
where bin_zero_ : ∀ n : Nat, n < 65 → bin n 0 = 1 := by decide +kernel

theorem bad_rd (l : List Int) (hb : l.any bad = false) (i : Nat) (hi : i < l.length) : 0 ≤ rd l (i : Int) ∧ rd l (i : Int) < 64 := by
  have h1 : bad (rd l (i : Int)) = false := by
    rw [List.any_eq_false] at hb
    have := hb (rd l (i : Int)) (by simp [rd, hi])
    simpa using this
  simp [bad] at h1
  omega
/-- The number of a list, from the i-th place on. -/
def num : List Int → Nat → Int
  | [], _ => 0
  | v :: t, i => bin v.toNat (i + 1) + num t (i + 1)
theorem num_drop (l : List Int) (i : Nat) (hi : i < l.length) : num (l.drop i) i = bin (rd l (i : Int)).toNat (i + 1) + num (l.drop (i + 1)) (i + 1) := by
  rw [drop_cons l i hi]
  rfl
theorem num_bd (l : List Int) (hl : l.length ≤ 5) (hb : l.any bad = false) : ∀ (m i : Nat), m = l.length - i → 0 ≤ num (l.drop i) i ∧ num (l.drop i) i ≤ 8000000 * m
  | 0, i, hm => by
    rw [List.drop_of_length_le (by omega)]
    simp [num]
  | m + 1, i, hm => by
    have ih := num_bd l hl hb m (i + 1) (by omega)
    have hr := bad_rd l hb i (by omega)
    have ht := (bin_tab (rd l (i : Int)).toNat (by omega) (i + 1) (by omega)).2.2
    rw [num_drop l i (by omega)]
    omega
theorem snum_l (l : List Int) (hl : l.length ≤ 5) (hb : l.any bad = false) : ∀ (m i : Nat) (acc : Int), m = l.length - i → i ≤ l.length → 0 ≤ acc → acc ≤ 8000000 * i →
    Ev (fun k => simplex_Number.l0 k acc l (l.length : Int) (i : Int)) (acc + num (l.drop i) i, 0)
  | 0, i, acc, hm, hi, h0, h1 => by
    rw [List.drop_of_length_le (by omega)]
    refine ev_succ ?_
    simp only [simplex_Number.l0, if_neg (show ¬ ((i : Int) < (l.length : Int)) by omega), num, Int.add_zero]
    exact Ev.now _
  | m + 1, i, acc, hm, hi, h0, h1 => by
    have hr := bad_rd l hb i (by omega)
    have ht := (bin_tab (rd l (i : Int)).toNat (by omega) (i + 1) (by omega)).2.2
    have ih := snum_l l hl hb m (i + 1) (acc + bin (rd l (i : Int)).toNat (i + 1)) (by omega) (by omega) (by omega) (by omega)
    refine ev_succ ?_
    simp only [simplex_Number.l0, if_pos (show ((i : Int) < (l.length : Int)) by omega), if_pos (show (0 : Int) ≤ (i : Int) by omega), wrap_nat i (by omega), over_at _ _ (rd l (i : Int)).toNat (i + 1) (show rd l (i : Int) = _ by omega) rfl (by omega) (by omega), Option.bind_some,
      wrap_id (show -9223372036854775808 ≤ acc + bin (rd l (i : Int)).toNat (i + 1) by omega) (by omega)]
    rw [num_drop l i (by omega), ← Int.add_assoc]
    exact ih
theorem rnum_l (l : List Int) (hl : l.length ≤ 5) (hb : l.any bad = false) : ∀ (m i : Nat) (acc : Int), m = l.length - i → i ≤ l.length → 0 ≤ acc → acc ≤ 8000000 * i →
    Ev (fun k => torusref07_Number.l0 k l acc (i : Int)) (acc + num (l.drop i) i, 0)
  | 0, i, acc, hm, hi, h0, h1 => by
    rw [List.drop_of_length_le (by omega)]
    refine ev_succ ?_
    simp only [torusref07_Number.l0, if_neg (show ¬ ((i : Int) < (l.length : Int)) by omega), num, Int.add_zero]
    exact Ev.now _
  | m + 1, i, acc, hm, hi, h0, h1 => by
    have hr := bad_rd l hb i (by omega)
    have ht := (bin_tab (rd l (i : Int)).toNat (by omega) (i + 1) (by omega)).2.2
    have ih := rnum_l l hl hb m (i + 1) (acc + bin (rd l (i : Int)).toNat (i + 1)) (by omega) (by omega) (by omega) (by omega)
    refine ev_succ ?_
    simp only [torusref07_Number.l0, if_pos (show ((i : Int) < (l.length : Int)) by omega), if_pos (show (0 : Int) ≤ (i : Int) by omega), wrap_nat i (by omega)]
    refine (ev_bind (rover_at _ _ (rd l (i : Int)).toNat (i + 1) (show rd l (i : Int) = _ by omega) rfl (by omega) (by omega))).mpr ?_
    simp only [wrap_id (show -9223372036854775808 ≤ acc + bin (rd l (i : Int)).toNat (i + 1) by omega) (by omega)]
    rw [num_drop l i (by omega), ← Int.add_assoc]
    exact ih
/-- What "Number" answers. -/
def nu (l : List Int) : Int × Int := if ck l = 0 then (num l 0, 0) else (0, ck l)
theorem snum_ev (l : List Int) : Ev (fun k => simplex_Number.f k l) (nu l) := by
  unfold simplex_Number.f nu
  refine (ev_bind (scheck_ev l)).mpr ?_
  by_cases c : ck l = 0
  · have h := ck_ok c
    simp only [if_pos c]
    have := snum_l l h.2.1 h.2.2.1 l.length 0 0 (by omega) (by omega) (by omega) (by omega)
    simpa using this
  · simp only [if_neg c]
    exact Ev.now _
theorem rnum_ev (l : List Int) : Ev (fun k => torusref07_Number.f k l) (nu l) := by
  unfold torusref07_Number.f nu
  refine (ev_bind (rcheck_ev l)).mpr ?_
  by_cases c : ck l = 0
  · have h := ck_ok c
    simp only [if_pos c]
    have := rnum_l l h.2.1 h.2.2.1 l.length 0 0 (by omega) (by omega) (by omega) (by omega)
    simpa using this
  · simp only [if_neg c]
    exact Ev.now _

/-! ### Numbered -/
/-- The greatest v below n with C(v, k) at most x, or 0. -/
def topF (x : Int) (k : Nat) : Nat → Nat
  | 0 => 0
  | n + 1 => if bin n k ≤ x then n else topF x k n
theorem topF_lt (x : Int) (k : Nat) : ∀ n, 0 < n → topF x k n < n
  | n + 1, _ => by
    unfold topF
    split
    · omega
    · cases n with
      | zero => simp [topF]
      | succ n => have := topF_lt x k (n + 1) (by omega); omega
theorem topF_le (x : Int) (k : Nat) (h0 : 0 ≤ x) (hk : 0 < k) (hk6 : k < 6) : ∀ n, n < 65 → bin (topF x k n) k ≤ x
  | 0, _ => by
    have := bin_low 0 (by omega) k hk6 hk
    simp only [topF]
    omega
  | n + 1, h => by
    unfold topF
    split
    · assumption
    · exact topF_le x k h0 hk hk6 n (by omega)
theorem topF_gt (x : Int) (k : Nat) : ∀ n v, topF x k n < v → v < n → x < bin v k
  | 0, v, _, h => by omega
  | n + 1, v, h, h2 => by
    unfold topF at h
    split at h
    · omega
    · by_cases e : v = n
      · subst e; omega
      · exact topF_gt x k n v h (by omega)
/-- If C(m, k) is greater than x, the search below m finds the same. -/
theorem topF_cut (x : Int) (k : Nat) (hk6 : k < 6) (m : Nat) : ∀ d, m + d < 65 → x < bin m k → topF x k (m + d) = topF x k m
  | 0, _, _ => rfl
  | d + 1, h, hx => by
    have h1 := bin_mono d m k (by omega) hk6
    rw [show m + (d + 1) = m + d + 1 by omega, topF, if_neg (by omega)]
    exact topF_cut x k hk6 m d (by omega) hx
/-- The list that is found, from the place i - 1 down. -/
def run : Nat → Int → List Int → List Int
  | 0, _, out => out
  | i + 1, x, out => run i (x - bin (topF x (i + 1) 64) (i + 1)) (out.set i (topF x (i + 1) 64 : Nat))
theorem nb_down (x : Int) (out : List Int) (i : Nat) (hi : i < 5) (hx : 0 ≤ x) (hxm : x ≤ 8000000) (r : List Int × Int) (hlen : i < out.length)
    (h : Ev (fun k => simplex_Numbered.l0 k (x - bin (topF x (i + 1) 64) (i + 1)) (out.set i (topF x (i + 1) 64 : Nat)) ((topF x (i + 1) 64 : Nat) : Int) ((i : Int) - 1)) r) :
    ∀ v : Nat, v < 64 → topF x (i + 1) 64 ≤ v → Ev (fun k => simplex_Numbered.l1 k x out (v : Int) (i : Int)) r := by
  intro v
  induction v with
  | zero =>
    intro hv hle
    have e0 : topF x (i + 1) 64 = 0 := by omega
    have hb := bin_low 0 (by omega) (i + 1) (by omega) (by omega)
    rw [e0] at h
    refine ev_succ ?_
    simp only [simplex_Numbered.l1, wrap_nat i (by omega), over_at ((0 : Nat) : Int) _ 0 (i + 1) rfl rfl (by omega) (by omega), Option.bind_some, hb, if_neg (show ¬ ((0 : Int) > x) by omega), if_pos (show (0 : Int) ≤ (i : Int) by omega), if_pos (show (i : Int) < (out.length : Int) by omega)]
    rw [wrap_id (show -9223372036854775808 ≤ (i : Int) - 1 by omega) (by omega)]
    have hx2 : x - bin 0 (i + 1) = x - 0 := by rw [hb]
    rw [hx2] at h
    rw [wrap_id (show -9223372036854775808 ≤ x - 0 by omega) (by omega)]
    simpa using h
  | succ v ih =>
    intro hv hle
    have hvt := (bin_tab (v + 1) (by omega) (i + 1) (by omega)).2.2
    refine ev_succ ?_
    simp only [simplex_Numbered.l1, wrap_nat i (by omega), over_at ((v + 1 : Nat) : Int) _ (v + 1) (i + 1) rfl rfl (by omega) (by omega), Option.bind_some]
    by_cases c : bin (v + 1) (i + 1) > x
    · have hne : topF x (i + 1) 64 ≠ v + 1 := by
        intro e
        have := topF_le x (i + 1) hx (by omega) (by omega) 64 (by omega)
        rw [e] at this
        omega
      simp only [if_pos c, wrap_id (show -9223372036854775808 ≤ ((v + 1 : Nat) : Int) - 1 by omega) (show ((v + 1 : Nat) : Int) - 1 ≤ 9223372036854775807 by omega)]
      have := ih (by omega) (by omega)
      rw [show ((v + 1 : Nat) : Int) - 1 = (v : Int) by omega]
      exact this
    · have he : topF x (i + 1) 64 = v + 1 := by
        by_cases e : topF x (i + 1) 64 < v + 1
        · have := topF_gt x (i + 1) 64 (v + 1) e (by omega)
          omega
        · omega
      rw [he] at h
      simp only [if_neg c, if_pos (show (0 : Int) ≤ (i : Int) by omega), if_pos (show (i : Int) < (out.length : Int) by omega)]
      rw [wrap_id (show -9223372036854775808 ≤ (i : Int) - 1 by omega) (by omega)]
      rw [wrap_id (show -9223372036854775808 ≤ x - bin (v + 1) (i + 1) by omega) (by omega)]
      simpa using h
theorem top_low (x : Int) (i : Nat) (hi : i < 5) (hx : 0 ≤ x) : i ≤ topF x (i + 1) 64 := by
  by_cases c : topF x (i + 1) 64 < i
  · have h1 := topF_gt x (i + 1) 64 i c (by omega)
    have h2 := bin_low i (by omega) (i + 1) (by omega) (by omega)
    omega
  · omega
theorem top_next (x : Int) (i : Nat) (hi : i < 5) (hx : 0 ≤ x) (hm : x < bin 64 (i + 1)) : x < bin (topF x (i + 1) 64 + 1) (i + 1) := by
  have hl := topF_lt x (i + 1) 64 (by omega)
  by_cases c : topF x (i + 1) 64 + 1 = 64
  · rw [c]; exact hm
  · exact topF_gt x (i + 1) 64 _ (by omega) (by omega)
theorem nb_up (x : Int) (out : List Int) (i : Nat) (hi : i < 5) (hx : 0 ≤ x) (hxm : x < bin 64 (i + 1)) (r : List Int × Int) (hlen : i < out.length)
    (h : Ev (fun k => torusref07_Numbered.l0 k (x - bin (topF x (i + 1) 64) (i + 1)) (out.set i (topF x (i + 1) 64 : Nat)) ((i : Int) - 1)) r) :
    ∀ (d v : Nat), v + d = topF x (i + 1) 64 → Ev (fun k => torusref07_Numbered.l1 k x out (i : Int) (v : Int)) r := by
  have hl := topF_lt x (i + 1) 64 (by omega)
  have hn := top_next x i hi hx hxm
  have hle := topF_le x (i + 1) hx (by omega) (by omega) 64 (by omega)
  have h64 := (bin_tab 64 (by omega) (i + 1) (by omega)).2.2
  intro d
  induction d with
  | zero =>
    intro v hv
    have hvt := (bin_tab v (by omega) (i + 1) (by omega)).2.2
    rw [← hv] at hn h hle
    simp only [Nat.add_zero] at hn h hle
    refine ev_succ ?_
    simp only [torusref07_Numbered.l1, wrap_nat i (by omega), wrap_nat v (by omega)]
    refine (ev_bind (rover_at _ _ (v + 1) (i + 1) rfl rfl (by omega) (by omega))).mpr ?_
    simp only [if_neg (show ¬ (bin (v + 1) (i + 1) ≤ x) by omega), if_pos (show (0 : Int) ≤ (i : Int) by omega), if_pos (show (i : Int) < (out.length : Int) by omega)]
    refine (ev_bind (rover_at _ _ v (i + 1) rfl rfl (by omega) (by omega))).mpr ?_
    simp only [wrap_id (show -9223372036854775808 ≤ (i : Int) - 1 by omega) (show (i : Int) - 1 ≤ 9223372036854775807 by omega), wrap_id (show -9223372036854775808 ≤ x - bin v (i + 1) by omega) (show x - bin v (i + 1) ≤ 9223372036854775807 by omega)]
    simpa using h
  | succ d ih =>
    intro v hv
    have hb := bin_mono d (v + 1) (i + 1) (by omega) (by omega)
    rw [show v + 1 + d = topF x (i + 1) 64 by omega] at hb
    refine ev_succ ?_
    simp only [torusref07_Numbered.l1, wrap_nat i (by omega), wrap_nat v (by omega)]
    refine (ev_bind (rover_at _ _ (v + 1) (i + 1) rfl rfl (by omega) (by omega))).mpr ?_
    simp only [if_pos (show (bin (v + 1) (i + 1) ≤ x) by omega)]
    exact ih (v + 1) (by omega)
theorem bin64_le (vp k : Nat) (h : vp ≤ 64) (hk : k < 6) : bin vp k ≤ bin 64 k := by
  have := bin_mono (64 - vp) vp k (by omega) hk
  rwa [show vp + (64 - vp) = 64 by omega] at this
theorem step_bd (x : Int) (i : Nat) (hi : i < 5) (hx : 0 ≤ x) (hxm : x < bin 64 (i + 1)) : 0 ≤ x - bin (topF x (i + 1) 64) (i + 1) ∧ x - bin (topF x (i + 1) 64) (i + 1) < bin (topF x (i + 1) 64) i := by
  have hl := topF_lt x (i + 1) 64 (by omega)
  have hn := top_next x i hi hx hxm
  have hle := topF_le x (i + 1) hx (by omega) (by omega) 64 (by omega)
  have hp := bin_pascal (topF x (i + 1) 64) (by omega) i (by omega)
  omega
theorem snb_run : ∀ (i : Nat) (x : Int) (out : List Int) (vp : Nat), i ≤ 5 → 0 ≤ x → (0 < i → x < bin vp i) → vp ≤ 64 → i ≤ out.length → Ev (fun k => simplex_Numbered.l0 k x out (vp : Int) ((i : Int) - 1)) (run i x out, 0)
  | 0, x, out, vp, _, _, _, _, _ => by
    refine ev_succ ?_
    simp only [simplex_Numbered.l0, if_neg (show ¬ (((0 : Nat) : Int) - 1 ≥ 0) by omega)]
    exact Ev.now _
  | i + 1, x, out, vp, hi, hx, hb, hv, hlen => by
    have hb := hb (by omega)
    have h64 := bin64_le vp (i + 1) hv (by omega)
    have hm := (bin_tab 64 (by omega) (i + 1) (by omega)).2.2
    have hs := step_bd x i (by omega) hx (by omega)
    have hl := topF_lt x (i + 1) 64 (by omega)
    have hle := topF_le x (i + 1) hx (by omega) (by omega) 64 (by omega)
    have hvp : topF x (i + 1) 64 < vp := by
      by_cases c : topF x (i + 1) 64 < vp
      · exact c
      · have := bin_mono (topF x (i + 1) 64 - vp) vp (i + 1) (by omega) (by omega)
        rw [show vp + (topF x (i + 1) 64 - vp) = topF x (i + 1) 64 by omega] at this
        omega
    have ih := snb_run i (x - bin (topF x (i + 1) 64) (i + 1)) (out.set i (topF x (i + 1) 64 : Nat)) (topF x (i + 1) 64) (by omega) hs.1 (fun _ => hs.2) (by omega) (by simp; omega)
    have hd := nb_down x out i (by omega) hx (by omega) _ (by omega) ih (vp - 1) (by omega) (by omega)
    refine ev_succ ?_
    rw [show ((i + 1 : Nat) : Int) - 1 = (i : Int) by omega]
    simp only [simplex_Numbered.l0, if_pos (show (i : Int) ≥ 0 by omega), wrap_id (show -9223372036854775808 ≤ (vp : Int) - 1 by omega) (show (vp : Int) - 1 ≤ 9223372036854775807 by omega)]
    rw [show ((vp - 1 : Nat) : Int) = (vp : Int) - 1 by omega] at hd
    exact hd
theorem rnb_run : ∀ (i : Nat) (x : Int) (out : List Int), i ≤ 5 → 0 ≤ x → (0 < i → x < bin 64 i) → i ≤ out.length → Ev (fun k => torusref07_Numbered.l0 k x out ((i : Int) - 1)) (run i x out, 0)
  | 0, x, out, _, _, _, _ => by
    refine ev_succ ?_
    simp only [torusref07_Numbered.l0, if_neg (show ¬ (((0 : Nat) : Int) - 1 ≥ 0) by omega)]
    exact Ev.now _
  | i + 1, x, out, hi, hx, hb, hlen => by
    have hb := hb (by omega)
    have hs := step_bd x i (by omega) hx hb
    have hl := topF_lt x (i + 1) 64 (by omega)
    have hlo := top_low x i (by omega) hx
    have h64 := bin64_le (topF x (i + 1) 64) i (by omega) (by omega)
    have ih := rnb_run i (x - bin (topF x (i + 1) 64) (i + 1)) (out.set i (topF x (i + 1) 64 : Nat)) (by omega) hs.1 (fun _ => by omega) (by simp; omega)
    have hd := nb_up x out i (by omega) hx hb _ (by omega) ih (topF x (i + 1) 64 - i) i (by omega)
    refine ev_succ ?_
    rw [show ((i + 1 : Nat) : Int) - 1 = (i : Int) by omega]
    simp only [torusref07_Numbered.l0, if_pos (show (i : Int) ≥ 0 by omega)]
    exact hd
/-- What "Numbered" answers. -/
def nb (d x : Int) : List Int × Int := if d < 0 ∨ d > 4 then ([], 1) else if x < 0 ∨ x ≥ bin 64 (d.toNat + 1) then ([], 4) else (run (d.toNat + 1) x (List.replicate (d.toNat + 1) 0), 0)
theorem snb_ev (d x : Int) : Ev (fun k => simplex_Numbered.f k d x) (nb d x) := by
  unfold simplex_Numbered.f nb
  by_cases c1 : d < 0
  · simp only [if_pos c1, if_pos (show d < 0 ∨ d > 4 from .inl c1)]
    refine ev_succ ?_
    simp only [simplex_Numbered.j0, if_true]
    exact Ev.now _
  · by_cases c2 : d > 4
    · simp only [if_neg c1, if_pos (show d < 0 ∨ d > 4 from .inr c2), decide_eq_true c2]
      refine ev_succ ?_
      simp only [simplex_Numbered.j0, if_true]
      exact Ev.now _
    · simp only [if_neg c1, if_neg (show ¬ (d < 0 ∨ d > 4) by omega), decide_eq_false c2]
      obtain ⟨i, rfl⟩ := Int.eq_ofNat_of_zero_le (show 0 ≤ d by omega)
      have hm := (bin_tab 64 (by omega) (i + 1) (by omega)).2.2
      refine ev_succ ?_
      simp only [simplex_Numbered.j0, Bool.false_eq_true, if_false, Int.toNat_natCast]
      by_cases c3 : x < 0
      · simp only [if_pos c3, if_pos (show x < 0 ∨ x ≥ bin 64 (i + 1) from .inl c3)]
        refine ev_succ ?_
        simp only [simplex_Numbered.j1, if_true]
        exact Ev.now _
      · simp only [if_neg c3, wrap_nat i (by omega), over_at 64 _ 64 (i + 1) rfl rfl (by omega) (by omega), Option.bind_some]
        refine ev_succ ?_
        by_cases c4 : x ≥ bin 64 (i + 1)
        · simp only [simplex_Numbered.j1, decide_eq_true c4, if_true, if_pos (show x < 0 ∨ x ≥ bin 64 (i + 1) from .inr c4)]
          exact Ev.now _
        · simp only [simplex_Numbered.j1, decide_eq_false c4, Bool.false_eq_true, if_false, if_neg (show ¬ (x < 0 ∨ x ≥ bin 64 (i + 1)) by omega), wrap_nat i (by omega), if_pos (show (0 : Int) ≤ ((i + 1 : Nat) : Int) by omega), Int.toNat_natCast, if_pos (show i + 1 ≤ 35184372088832 by omega)]
          have := snb_run (i + 1) x (List.replicate (i + 1) 0) 64 (by omega) (by omega) (fun _ => by omega) (by omega) (by simp)
          rw [show ((i + 1 : Nat) : Int) - 1 = (i : Int) by omega] at this
          exact this
theorem rnb_ev (d x : Int) : Ev (fun k => torusref07_Numbered.f k d x) (nb d x) := by
  unfold torusref07_Numbered.f nb
  by_cases c1 : d < 0
  · simp only [if_pos c1, if_pos (show d < 0 ∨ d > 4 from .inl c1)]
    refine ev_succ ?_
    simp only [torusref07_Numbered.j0, if_true]
    exact Ev.now _
  · by_cases c2 : d > 4
    · simp only [if_neg c1, if_pos (show d < 0 ∨ d > 4 from .inr c2), decide_eq_true c2]
      refine ev_succ ?_
      simp only [torusref07_Numbered.j0, if_true]
      exact Ev.now _
    · simp only [if_neg c1, if_neg (show ¬ (d < 0 ∨ d > 4) by omega), decide_eq_false c2]
      obtain ⟨i, rfl⟩ := Int.eq_ofNat_of_zero_le (show 0 ≤ d by omega)
      have hm := (bin_tab 64 (by omega) (i + 1) (by omega)).2.2
      refine ev_succ ?_
      simp only [torusref07_Numbered.j0, Bool.false_eq_true, if_false, Int.toNat_natCast]
      by_cases c3 : x < 0
      · simp only [if_pos c3, if_pos (show x < 0 ∨ x ≥ bin 64 (i + 1) from .inl c3)]
        refine ev_succ ?_
        simp only [torusref07_Numbered.j1, if_true]
        exact Ev.now _
      · simp only [if_neg c3, wrap_nat i (by omega)]
        refine (ev_bind (rover_at 64 _ 64 (i + 1) rfl rfl (by omega) (by omega))).mpr ?_
        refine ev_succ ?_
        by_cases c4 : x ≥ bin 64 (i + 1)
        · simp only [torusref07_Numbered.j1, decide_eq_true c4, if_true, if_pos (show x < 0 ∨ x ≥ bin 64 (i + 1) from .inr c4)]
          exact Ev.now _
        · simp only [torusref07_Numbered.j1, decide_eq_false c4, Bool.false_eq_true, if_false, if_neg (show ¬ (x < 0 ∨ x ≥ bin 64 (i + 1)) by omega), wrap_nat i (by omega), if_pos (show (0 : Int) ≤ ((i + 1 : Nat) : Int) by omega), Int.toNat_natCast, if_pos (show i + 1 ≤ 35184372088832 by omega)]
          have := rnb_run (i + 1) x (List.replicate (i + 1) 0) (by omega) (by omega) (fun _ => by omega) (by simp)
          rw [show ((i + 1 : Nat) : Int) - 1 = (i : Int) by omega] at this
          exact this
theorem run_len : ∀ (i : Nat) (x : Int) (out : List Int), (run i x out).length = out.length
  | 0, _, _ => rfl
  | i + 1, x, out => by rw [run, run_len]; simp
theorem nb_len (d x : Int) : (nb d x).1.length ≤ 5 := by
  unfold nb
  split
  · simp
  · split
    · simp
    · rename_i h _
      rw [run_len]
      simp
      omega
end Go.Proofs.YticckanjfdcpaaaDoor.PSimplex
namespace Go.Proofs.YticckanjfdcpaaaDoor.Pure
open Go.RowKit Go.Proofs.YticckanjfdcpaaaDoor.PSimplex Go.Proofs.YticckanjfdcpaaaDoorW.PrintWords Go.Proofs.YticckanjfdcpaaaDoorW.PrintLast
set_option linter.unusedVariables false
set_option linter.unusedSimpArgs false

theorem SimplexNumbersMatch : toruslaw07_SimplexNumbersMatch.Pure := by
  intro l d x _ _ _ _ _
  apply Ev.rounds
  unfold toruslaw07_SimplexNumbersMatch.f
  by_cases c : (l.length : Int) > 200
  · simp only [if_pos c]
    exact law_long awake_ev (Ev.now _)
  · simp only [if_neg c]
    refine law_long (snum_ev l) ?_
    refine law_long (rnum_ev l) ?_
    refine law_long (snb_ev d x) ?_
    refine law_long (rnb_ev d x) ?_
    simp only [if_true]
    refine law_long (rcmp_ev _ _ (by have := nb_len d x; omega)) ?_
    simp only [if_pos (cm_self (nb d x).1), if_true]
    exact law_long awake_ev (Ev.now _)
end Go.Proofs.YticckanjfdcpaaaDoor.Pure
