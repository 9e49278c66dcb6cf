/- Go functions as plain Lean functions, each with a proof that the Go code computes just that, and facts on them; conditions: those that each theorem states. -/
import Derived.Test.YticckanjfdcpaaaDoorQSigns4
namespace Go.Proofs.YticckanjfdcpaaaDoor.Pure
open Go.RowKit Go.Proofs.YticckanjfdcpaaaDoor.PSimplex Go.Proofs.YticckanjfdcpaaaDoorW.PrintWords Go.Proofs.YticckanjfdcpaaaDoorW.PrintLast
set_option linter.unusedVariables false
set_option linter.unusedSimpArgs false

theorem insR_countP (f : Int → Bool) : ∀ R x, (insR R x).countP f = (x :: R).countP f
  | [], x => rfl
  | a :: R, x => by
    unfold insR
    split
    · have := insR_countP f R x
      simp only [List.countP_cons] at this ⊢
      omega
    · rfl
theorem srt_countP (f : Int → Bool) : ∀ B R, (srt R B).countP f = R.countP f + B.countP f
  | [], R => by simp [srt]
  | x :: B, R => by
    rw [srt, srt_countP f B, insR_countP]
    simp only [List.countP_cons]
    omega
theorem asc_lt : ∀ (x : Int) (t : List Int), asc (x :: t) = true → ∀ b ∈ t, x < b
  | x, [], _, b, hb => by simp at hb
  | x, y :: t, h, b, hb => by
    simp only [asc, Bool.and_eq_true, decide_eq_true_eq] at h
    rcases List.mem_cons.1 hb with e | e
    · omega
    · have := asc_lt y t h.2 b e
      omega
theorem asc_tail (x : Int) (t : List Int) (h : asc (x :: t) = true) : asc t = true := by
  cases t with
  | nil => rfl
  | cons y t => simp only [asc, Bool.and_eq_true] at h; exact h.2
theorem asc_once : ∀ (s : List Int), asc s = true → ∀ p : Int, s.countP (· == p) ≤ 1
  | [], _, p => by simp
  | x :: t, h, p => by
    have h1 := asc_once t (asc_tail x t h) p
    rw [List.countP_cons]
    by_cases c : x = p
    · have h0 : t.countP (· == p) = 0 := by
        rw [List.countP_eq_zero]
        intro b hb
        have := asc_lt x t h b hb
        simp
        omega
      rw [h0]
      split <;> omega
    · have : (x == p) = false := by simp [c]
      rw [this]
      simpa using h1
/-- Lists in order, with as many elements above each bound, are one. -/
theorem desc_eq : ∀ (R S : List Int), desc R → desc S → (∀ y, cnt R y = cnt S y) → R = S
  | [], [], _, _, _ => rfl
  | [], b :: S, _, hS, h => by
    have := h (b - 1)
    rw [cnt_cons, if_pos (by omega)] at this
    simp [cnt] at this
  | a :: R, [], hR, _, h => by
    have := h (a - 1)
    rw [cnt_cons, if_pos (by omega)] at this
    simp [cnt] at this
  | a :: R, b :: S, hR, hS, h => by
    have zero : ∀ (c : Int) (T : List Int), (∀ d ∈ T, d ≤ c) → cnt T c = 0 := fun c T hT => by
      unfold cnt
      rw [List.countP_eq_zero]
      intro d hd
      have := hT d hd
      simp
      omega
    have hab : a = b := by
      have h1 := h a
      have h2 := h b
      rw [cnt_cons, cnt_cons, zero a R hR.1] at h1
      rw [cnt_cons, cnt_cons, zero b S hS.1] at h2
      by_cases c : a < b
      · rw [if_neg (by omega), if_pos c] at h1; omega
      · by_cases c' : b < a
        · rw [if_pos c', if_neg (by omega)] at h2; omega
        · omega
    subst hab
    have := desc_eq R S hR.2 hS.2 (fun y => by have := h y; rw [cnt_cons, cnt_cons] at this; omega)
    rw [this]
def fin : List Int → List Int → List Int
  | R, [] => R
  | R, x :: B => fin (insR R x) B
theorem srt_fin : ∀ B R, srt R B = (fin R B).reverse
  | [], R => rfl
  | x :: B, R => by rw [srt, fin, srt_fin B]
theorem fin_desc : ∀ B R, desc R → desc (fin R B)
  | [], R, h => h
  | x :: B, R, h => fin_desc B _ (insR_desc R x h)
theorem fin_cnt (y : Int) : ∀ B R, cnt (fin R B) y = cnt R y + cnt B y
  | [], R => by simp [fin, cnt]
  | x :: B, R => by rw [fin, fin_cnt y B, insR_cnt, cnt_cons, cnt_cons]; omega
theorem srt_same (x l : List Int) (h : ∀ y, cnt x y = cnt l y) : srt [] x = srt [] l := by
  rw [srt_fin, srt_fin, desc_eq (fin [] x) (fin [] l) (fin_desc x [] trivial) (fin_desc l [] trivial) (fun y => by rw [fin_cnt, fin_cnt, h y])]
theorem cnt_app (A B : List Int) (y : Int) : cnt (A ++ B) y = cnt A y + cnt B y := by simp [cnt]
def lt (X : List Int) (p : Int) : Nat := X.countP (fun a => decide (a < p))
theorem lt_cons (a : Int) (X : List Int) (p : Int) : lt (a :: X) p = lt X p + if a < p then 1 else 0 := by simp [lt, List.countP_cons]
theorem invs_app : ∀ (X R Y : List Int), invs R (X ++ Y) = invs R X + invs (X.reverse ++ R) Y
  | [], R, Y => by simp [invs]
  | x :: X, R, Y => by
    rw [List.cons_append, invs, invs, invs_app X (x :: R) Y]
    simp
    omega
theorem invs_same : ∀ (B R S : List Int), (∀ y, cnt R y = cnt S y) → invs R B = invs S B
  | [], _, _, _ => rfl
  | x :: B, R, S, h => by rw [invs, invs, h x, invs_same B (x :: R) (x :: S) (fun y => by rw [cnt_cons, cnt_cons, h y])]
theorem invs_push (p : Int) : ∀ (X R : List Int), invs (p :: R) X = invs R X + lt X p
  | [], R => by simp [invs, lt]
  | x :: X, R => by
    have e : invs (x :: p :: R) X = invs (p :: x :: R) X := invs_same X _ _ (fun y => by rw [cnt_cons, cnt_cons, cnt_cons, cnt_cons]; omega)
    rw [invs, invs, lt_cons, cnt_cons, e, invs_push p X (x :: R)]
    omega
theorem lt_cnt (M : List Int) (p : Int) (h : ∀ b ∈ M, b ≠ p) : lt M p + cnt M p = M.length := by
  induction M with
  | nil => rfl
  | cons a M ih =>
    have := ih (fun b hb => h b (List.mem_cons_of_mem _ hb))
    have ha := h a List.mem_cons_self
    rw [lt_cons, cnt_cons, List.length_cons]
    by_cases c : a < p
    · rw [if_pos c, if_neg (by omega)]; omega
    · rw [if_neg c, if_pos (by omega)]; omega
/-- An exchange changes the parity. -/
theorem invs_swap (A M B : List Int) (p q : Int) (hpq : p ≠ q) (hp : ∀ b ∈ M, b ≠ p) (hq : ∀ b ∈ M, b ≠ q) :
    (invs [] (A ++ p :: (M ++ q :: B)) + invs [] (A ++ q :: (M ++ p :: B))) % 2 = 1 := by
  have e : ∀ p q : Int, invs [] (A ++ p :: (M ++ q :: B)) = invs [] A + (cnt A.reverse p + (invs A.reverse M + lt M p) + (cnt M q + cnt A.reverse q + (if q < p then 1 else 0)) + invs (q :: (M.reverse ++ p :: A.reverse)) B) := fun p q => by
    rw [invs_app, List.append_nil, invs, invs_app, invs, invs_push, cnt_app, cnt_cons]
    simp only [cnt_rev]
    omega
  rw [e p q, e q p, invs_same B (p :: (M.reverse ++ q :: A.reverse)) (q :: (M.reverse ++ p :: A.reverse)) (fun y => by rw [cnt_cons, cnt_app, cnt_cons, cnt_cons, cnt_app, cnt_cons]; omega)]
  have h1 := lt_cnt M p hp
  have h2 := lt_cnt M q hq
  by_cases c : p < q
  · rw [if_neg (by omega), if_pos c]; omega
  · rw [if_pos (by omega), if_neg c]; omega
theorem parts5 (l : List Int) (m n : Nat) (h : m < n) (hn : n < l.length) : ∃ A p M q B, l = A ++ p :: (M ++ q :: B) ∧ A.length = m ∧ A.length + 1 + M.length = n := by
  refine ⟨l.take m, l[m], (l.drop (m + 1)).take (n - m - 1), l[n], l.drop (n + 1), ?_, by simp; omega, by simp; omega⟩
  have h1 : l.drop (m + 1) = (l.drop (m + 1)).take (n - m - 1) ++ l[n] :: l.drop (n + 1) := by
    have h2 : (l.drop (m + 1)).drop (n - m - 1) = l[n] :: l.drop (n + 1) := by
      rw [List.drop_drop, show m + 1 + (n - m - 1) = n by omega, List.drop_eq_getElem_cons hn]
    rw [← h2, List.take_append_drop]
  rw [← h1, ← List.drop_eq_getElem_cons (by omega : m < l.length), List.take_append_drop]
theorem swap_form (A M B : List Int) (p q : Int) : ((A ++ p :: (M ++ q :: B)).set A.length q).set (A.length + 1 + M.length) p = A ++ q :: (M ++ p :: B) := by
  rw [set_mid]
  have h := set_mid (A ++ q :: M) q p B
  simp only [List.append_assoc, List.cons_append, List.length_append, List.length_cons] at h
  rw [show A.length + 1 + M.length = A.length + (M.length + 1) by omega]
  exact h
theorem so_ok {l : List Int} (h : (so l).2.2 = 0) : 1 ≤ l.length ∧ l.length ≤ 5 ∧ l.any bad = false ∧ ck (srt [] l) = 0 ∧ so l = (srt [] l, sg (invs [] l), 0) := by
  unfold so at h ⊢
  split at h
  · simp at h
  · split at h
    · simp at h
    · split at h
      · simp at h
      · rename_i c1 c2 c3
        unfold sorted3 at h ⊢
        split at h
        · rename_i c4
          rw [if_neg c1, if_neg c2, if_neg c3, if_pos c4]
          exact ⟨by omega, by omega, by simpa using c3, c4, rfl⟩
        · simp at h
theorem so_of {l : List Int} (h1 : 1 ≤ l.length) (h2 : l.length ≤ 5) (h3 : l.any bad = false) (h4 : ck (srt [] l) = 0) : so l = (srt [] l, sg (invs [] l), 0) := by
  unfold so sorted3
  rw [if_neg (by omega), if_neg (by omega), h3, if_neg (by simp), if_pos h4]
theorem any_same (x l : List Int) (h : ∀ f : Int → Bool, x.countP f = l.countP f) : x.any bad = l.any bad := by
  have e : ∀ t : List Int, t.any bad = decide (0 < t.countP bad) := fun t => by
    rw [Bool.eq_iff_iff]
    simp [List.countP_pos_iff]
  rw [e, e, h]
/-- The exchange of two places: the same simplex, the other sign. -/
theorem swap_so (l : List Int) (m n : Nat) (hmn : m ≠ n) (hm : m < l.length) (hn : n < l.length) (h : (so l).2.2 = 0) :
    ∃ o, so ((l.set m (rd l (n : Int))).set n (rd l (m : Int))) = ((so l).1, o, 0) ∧ o ≠ (so l).2.1 ∧ (o = 1 ∨ o = -1) := by
  have main : ∀ m n : Nat, m < n → n < l.length → ∃ o, so ((l.set m (rd l (n : Int))).set n (rd l (m : Int))) = ((so l).1, o, 0) ∧ o ≠ (so l).2.1 ∧ (o = 1 ∨ o = -1) := by
    intro m n hlt hn
    obtain ⟨h1, h2, h3, h4, h5⟩ := so_ok h
    obtain ⟨A, p, M, q, B, e, ea, eb⟩ := parts5 l m n hlt hn
    have r1 : rd l (m : Int) = p := by rw [e, ← ea]; exact rd_mid A p _
    have r2 : rd l (n : Int) = q := by
      have := rd_mid (A ++ p :: M) q B
      simp only [List.append_assoc, List.cons_append, List.length_append, List.length_cons] at this
      rw [e, ← eb, show A.length + 1 + M.length = A.length + (M.length + 1) by omega]
      exact this
    have hx : (l.set m (rd l (n : Int))).set n (rd l (m : Int)) = A ++ q :: (M ++ p :: B) := by rw [r1, r2, e, ← ea, ← eb, swap_form]
    have hc : ∀ f : Int → Bool, (A ++ q :: (M ++ p :: B)).countP f = l.countP f := fun f => by rw [e]; simp only [List.countP_append, List.countP_cons]; omega
    have hs : srt [] (A ++ q :: (M ++ p :: B)) = srt [] l := srt_same _ _ (fun y => hc _)
    have honce : ∀ z : Int, l.countP (· == z) ≤ 1 := fun z => by
      have h6 := asc_once _ (ck_ok h4).2.2.2 z
      rw [srt_countP] at h6
      simpa using h6
    have hpq : p ≠ q := fun he => by
      have := honce p
      rw [e, List.countP_append, List.countP_cons, List.countP_append, List.countP_cons, he] at this
      simp at this
      omega
    have hM : ∀ z : Int, (z = p ∨ z = q) → ∀ b ∈ M, b ≠ z := fun z hz b hb he => by
      have h7 := honce z
      have h8 : 0 < M.countP (· == z) := List.countP_pos_iff.2 ⟨b, hb, by simp [he]⟩
      rw [e, List.countP_append, List.countP_cons, List.countP_append, List.countP_cons] at h7
      rcases hz with hz | hz
      · rw [show (p == z) = true by simp [hz]] at h7; simp at h7; omega
      · rw [show (q == z) = true by simp [hz]] at h7; simp at h7; omega
    have hpar := invs_swap A M B p q hpq (hM p (.inl rfl)) (hM q (.inr rfl))
    rw [← e] at hpar
    have hlen : (A ++ q :: (M ++ p :: B)).length = l.length := by rw [e]; simp
    rw [hx, so_of (by omega) (by omega) (by rw [any_same _ _ hc]; exact h3) (by rw [hs]; exact h4), h5, hs]
    refine ⟨_, rfl, ?_, ?_⟩
    · simp only [sg]
      intro hh
      split at hh <;> split at hh <;> omega
    · unfold sg
      split
      · exact .inl rfl
      · exact .inr rfl
  by_cases c : m < n
  · exact main m n c hn
  · have := main n m (by omega) hm
    rwa [List.set_comm _ _ (by omega)] at this
theorem SimplexSigns : toruslaw07_SimplexSigns.Pure := by
  intro l i j _ hl _ hi hj
  apply Ev.rounds
  have long : Ev (fun k => toruslaw07_SimplexSigns.j0 k l i j true) true := by
    refine ev_succ ?_
    simp only [toruslaw07_SimplexSigns.j0, if_true]
    exact law_long awake_ev (Ev.now _)
  unfold toruslaw07_SimplexSigns.f
  by_cases c : (l.length : Int) > 50
  · simp only [if_pos c]
    exact long
  · simp only [if_neg c]
    refine law_long awake_ev ?_
    refine ev_succ ?_
    simp only [toruslaw07_SimplexSigns.j0, Bool.not_true, Bool.false_eq_true, if_false]
    refine law_long (ssort_ev l) ?_
    by_cases c1 : (so l).2.2 = 0
    · obtain ⟨h1, h2, h3, h4, h5⟩ := so_ok c1
      have hi' : 0 ≤ i ∧ i ≤ 255 := by simpa [Lit.wf, show IntKind.u8.min = 0 by decide, show IntKind.u8.max = 255 by decide] using hi
      have hj' : 0 ≤ j ∧ j ≤ 255 := by simpa [Lit.wf, show IntKind.u8.min = 0 by decide, show IntKind.u8.max = 255 by decide] using hj
      have ei : Int.tmod (wrap64 i) (l.length : Int) = ((i.toNat % l.length : Nat) : Int) := by
        rw [wrap_id (by omega) (by omega), Int.tmod_eq_emod_of_nonneg (by omega), Int.natCast_emod, Int.toNat_of_nonneg (by omega)]
      have ej : Int.tmod (wrap64 j) (l.length : Int) = ((j.toNat % l.length : Nat) : Int) := by
        rw [wrap_id (by omega) (by omega), Int.tmod_eq_emod_of_nonneg (by omega), Int.natCast_emod, Int.toNat_of_nonneg (by omega)]
      have hm : i.toNat % l.length < l.length := Nat.mod_lt _ (by omega)
      have hn : j.toNat % l.length < l.length := Nat.mod_lt _ (by omega)
      rw [ei, ej]
      generalize i.toNat % l.length = m at hm
      generalize j.toNat % l.length = n at hn
      have hsg : (so l).2.1 = 1 ∨ (so l).2.1 = -1 := by
        rw [h5]
        simp only [sg]
        split
        · exact .inl rfl
        · exact .inr rfl
      have key : ∃ o, so ((l.set m (rd l (n : Int))).set n (rd l (m : Int))) = ((so l).1, o, 0) ∧ ((m : Int) == (n : Int)) = (o == (so l).2.1) ∧ (o = 1 ∨ o = -1) := by
        by_cases e : m = n
        · subst e
          have hsame : (l.set m (rd l (m : Int))).set m (rd l (m : Int)) = l := by
            rw [List.set_set]
            have : rd l (m : Int) = l[m] := by simp [rd, hm]
            rw [this, List.set_getElem_self]
          refine ⟨(so l).2.1, by rw [hsame]; rw [h5], by simp, hsg⟩
        · obtain ⟨o, ho, hne, hv⟩ := swap_so l m n e hm hn c1
          refine ⟨o, ho, ?_, hv⟩
          have e1 : ((m : Int) == (n : Int)) = false := by simp; omega
          have e2 : (o == (so l).2.1) = false := by simp [hne]
          rw [e1, e2]
      obtain ⟨o, ho, hb, hv⟩ := key
      simp only [if_pos c1, if_neg (show ¬ ((l.length : Int) = 0) by omega), Option.bind_some, List.nil_append, List.length_nil, if_pos (show 0 + l.length < 17592186044416 by omega),
        if_pos (show (0 : Int) ≤ (m : Int) by omega), if_pos (show (0 : Int) ≤ (n : Int) by omega), if_pos (show (m : Int) < (l.length : Int) by omega), if_pos (show (n : Int) < (l.length : Int) by omega), Int.toNat_natCast]
      refine law_long (ssort_ev _) ?_
      rw [ho]
      unfold toruslaw07_is.f
      simp only [if_true]
      refine law_long ((ev_bind (rcmp_ev (so l).1 (so l).1 (by have := so_len l; omega))).mpr (Ev.now _)) ?_
      simp only [cm_self, beq_self_eq_true, if_true, hb]
      rcases hsg with hsg | hsg <;> rcases hv with hv | hv <;> simp only [hsg, hv] <;> exact Ev.now _
    · have he : (so l).1 = [] ∧ (so l).2.1 = 0 := by
        unfold so sorted3 at c1 ⊢
        split
        · simp
        · split
          · simp
          · split
            · simp
            · split
              · rename_i a1 a2 a3 a4
                rw [if_neg a1, if_neg a2, if_neg a3, if_pos a4] at c1
                simp at c1
              · simp
      simp only [if_neg c1, he.1, he.2, List.length_nil]
      exact Ev.now _
end Go.Proofs.YticckanjfdcpaaaDoor.Pure
