/- Go functions as plain Lean functions, each with a proof that the Go code computes just that, and facts on them; conditions: those that each theorem states. -/
import Derived.Test.YtfmcgammhfdfnaaGreatDoorQExpansions3
import Derived.Deep.DeepCutAuto
namespace Go.Proofs.YtfmcgammhfdfnaaGreatDoor.PRatio
open Go.RowKit Go.Proofs.YtfmcgammhfdfnaaGreatDoorW.PrintWords Go.Proofs.YtfmcgammhfdfnaaGreatDoorW.PrintLast Go.Proofs.YtfmcgammhfdfnaaGreatDoorW.PrintMore
set_option linter.unusedVariables false
set_option linter.unusedSimpArgs false
set_option maxHeartbeats 8000000
set_option maxRecDepth 100000
theorem nd_tx (z : Int) : nd z.natAbs ≤ (tx z).length := by
 have key : ∀ y : Int, 0 ≤ y → nd y.natAbs ≤ (ntx y).length := by
  intro y hy
  unfold ntx sg
  rw [List.length_reverse, List.length_map]
  split
  next h => subst h; simp [nd_zero]
  next h => rw [nd, show y.natAbs = y.toNat by omega]; exact Nat.le_refl _
 unfold tx
 split
 ·have := key (-z) (by omega)
  rw [Int.natAbs_neg] at this
  rw [List.length_cons]
  omega
 ·exact key z (by omega)
theorem ln_nd {z : Int} {k : Nat} (h : nd z.natAbs ≤ k) : Ln z ((k + 8) / 9) := by
 have h1 := (nd_le k z.natAbs).1 h
 refine dg_abs_len ?_
 have h2 : (10 : Nat) ^ k ≤ 1000000000 ^ ((k + 8) / 9) := by
  rw [show (1000000000 : Nat) = 10 ^ 9 from rfl, ← Nat.pow_mul]
  exact Nat.pow_le_pow_right (by decide) (by omega)
 have h3 : z.natAbs < 1000000000 ^ ((k + 8) / 9) := Nat.lt_of_lt_of_le h1 h2
 have h4 : ((z.natAbs : Nat) : Int) < ((1000000000 ^ ((k + 8) / 9) : Nat) : Int) := Int.ofNat_lt.2 h3
 rw [Int.natCast_pow] at h4
 exact h4
theorem ln_short {z : Int} (h : Lg z = false) : Ln z 112 := by
 have : ¬ 1000 < nd z.natAbs := of_decide_eq_false h
 exact (ln_nd (k := 1000) (by omega)).mono (by omega)
theorem ln_text {s : ByteArray} {z : Int} (h : int? (bytesOf s) = some z) (hs : s.size ≤ 9000000000000) : Ln z 1000000000000 := by
 have h1 := nd_tx z
 rw [← int?_eq h, bytesOf_size] at h1
 exact (ln_nd h1).mono (by omega)
theorem read_some (W : World) {s : ByteArray} {z : Int} (h : int? (bytesOf s) = some z) (hs : s.size ≤ 9000000000000) : Calls Tryz.prog 95 #[.string s] W fun e w' => Below W.heap.size W w' ∧ ∃ b A n c, e = .returned (.tuple #[.agg #[.bool b, .slice A n c], .bool true]) ∧ Wh w' b (.slice A n c) z := by
 have := read_calls W s hs
 rw [h] at this
 exact this
theorem read_none (W : World) {s : ByteArray} (h : int? (bytesOf s) = none) (hs : s.size ≤ 9000000000000) : Calls Tryz.prog 95 #[.string s] W fun e w' => Below W.heap.size W w' ∧ ∃ b A n c, e = .returned (.tuple #[.agg #[.bool b, .slice A n c], .bool false]) ∧ Wh w' b (.slice A n c) 0 := by
 have := read_calls W s hs
 rw [h] at this
 exact this
def RZQ (o : Option Rat) (e : Ending) (w' : World) : Prop := ∃ b A x c b' A' x' c' z z', e = .returned (.tuple #[.agg #[.bool b, .slice A x c, .bool b', .slice A' x' c'], .bool o.isSome]) ∧ Wh w' b (.slice A x c) z ∧ Wh w' b' (.slice A' x' c') z' ∧ ∀ q, o = some q → z = q.num ∧ z' = q.den
theorem RZQ.no {W : World} {b b' : Bool} {A A' : Option Addr} {n c n' c' : Nat} {z z' : Int} (h : Wh W b (.slice A n c) z) (h' : Wh W b' (.slice A' n' c') z') : RZQ none (.returned (.tuple #[.agg #[.bool b, .slice A n c, .bool b', .slice A' n' c'], .bool false])) W :=
 ⟨_, _, _, _, _, _, _, _, _, _, rfl, h, h', fun q h => (by cases h)⟩
theorem RZQ.yes {W : World} {q : Rat} {b b' : Bool} {A A' : Option Addr} {n c n' c' : Nat} {z z' : Int} (h : Wh W b (.slice A n c) z) (h' : Wh W b' (.slice A' n' c') z') (e : z = q.num) (e' : z' = q.den) : RZQ (some q) (.returned (.tuple #[.agg #[.bool b, .slice A n c, .bool b', .slice A' n' c'], .bool true])) W :=
 ⟨_, _, _, _, _, _, _, _, _, _, rfl, h, h', fun r h => (by cases h; exact ⟨e, e'⟩)⟩
theorem mk_nd {n d : Int} (h1 : 1 < d) (h3 : n.gcd d = 1) : n = (mkRat n d.toNat).num ∧ d = ((mkRat n d.toNat).den : Int) := by
 have hg : d.toNat.gcd n.natAbs = 1 := by
  rw [Nat.gcd_comm]
  simpa [Int.gcd, show d.natAbs = d.toNat by omega] using h3
 rw [Rat.num_mkRat, if_neg (by omega), Rat.den_mkRat, if_neg (by omega), hg]
 simp
 omega
theorem readrat_calls (W : World) (s : ByteArray) (hs : s.size ≤ 9000000000000) : Calls Tryz.prog 162 #[.string s] W fun e w' => Below W.heap.size W w' ∧ RZQ (rat? (bytesOf s)) e w' := by
 have E := Env.start W
 obtain ⟨s1, s2, f, hc⟩ := cut_ex s 47
 have hsz := hc.size
 have HC := Aside0.mk hc
 have HS := Aside0.mk hs
 have HS1 := Aside0.mk (show s1.size ≤ 9000000000000 by omega)
 have HS2 := Aside0.mk (show s2.size ≤ 9000000000000 by omega)
 rw [rat?_cut hc]
 clear hc hsz hs
 cases h1 : int? (bytesOf s1) with
 |none =>
  have H1 := Aside0.mk h1
  clear h1
  rw [show (if f = true then (match (none : Option Int), int? (bytesOf s2) with | some n, some d => if n ≠ 0 ∧ 1 < d ∧ n.gcd d = 1 then some (mkRat n d.toNat) else none | _, _ => none) else (none : Option Int).map fun z : Int => (z : Rat)) = none by split <;> rfl]
  go_enter Tryz.func162, Tryz.ntmps162
  go_wp2_with (first | ((with_reducible first | refine gate_box (by rfl) ?_ | refine gate_alloc (by rfl) ?_); refine bx_ E ?_; clear E; intro gb wb E; have q := E.cls; (repeat obtain ⟨_, _, q⟩ := q); clear q) | (go_at_call 80; refine env_call E (cut_of _ HC.out HS.out) ?_; clear E; rintro e wc E rfl; have q := E.cls; (repeat obtain ⟨_, _, q⟩ := q); clear q) | (go_at_call 95; refine env_call E (read_none _ H1.out HS1.out) ?_; clear E; rintro e wc E ⟨br, Ar, nr, cr, rfl, hw_⟩; replace E := E.wh hw_; clear hw_; have q := E.cls; (repeat obtain ⟨_, _, q⟩ := q); clear q) | ((with_reducible refine gate_stored (t := 77) (by rfl) ?_); refine st_ (fun ws hs_ => ?_); replace E := Env.pt2 hs_ E; clear hs_; have q := E.cls; (repeat obtain ⟨_, _, q⟩ := q); clear q) | ((with_reducible refine gate_stored (t := 84) (by rfl) ?_); refine st_ (fun ws hs_ => ?_); replace E := Env.pt4 hs_ E; clear hs_; have q := E.cls; (repeat obtain ⟨_, _, q⟩ := q); clear q) | (refine start_ (id := 4) (n := 6) (S := fun w' => Cls w' _) (ds := [4]) (bz 6 0) (by kernel_rfl) rfl rfl E.draw.cls (fun hH => ?_); replace E := E.draw; refine pu_ 3 (some 30) (bz 6 8) ?_; refine ta_ 0 (some 27) (bz 6 9) hH ?_; refine on_ 1 (some 28) (bz 6 11) (fun K hK => ?_); refine gs_ Tryz.func121 ?_; refine env_call E (of_calls (n := 1) (by omega) (by omega)) ?_; clear E; rintro e wc E ⟨br, Ar, nr, cr, rfl, hw_⟩; replace E := E.wh hw_; clear hw_; refine ⟨_, rfl, ?_⟩; refine hK.out _ _ E.cls (fun hH => ?_); clear hK K; refine nm_ (some 28) ?_; refine pu_ 2 (some 29) (bz 6 15) ?_; refine la_ 4 (none) (bz 6 31) (fun K hK => ?_); have q := E.cls; (repeat obtain ⟨_, _, q⟩ := q); clear q; refine sk_ (fun ws hs_ => ?_); replace E := Env.pt4 hs_ E; clear hs_; refine hK.out _ _ ?_; clear hK K; have q := E.cls; (repeat obtain ⟨_, _, q⟩ := q); clear q; refine pu_ 5 (some 3) (bz 6 63) ?_; refine done_ (by kernel_rfl) ?_; all_goals (have q := E.cls; (repeat obtain ⟨_, _, q⟩ := q); clear q)))
  refine bodyPost_ret (results_list (rs := [.cell _ 84, .tmp _]) rfl (by simp) (.cell _ _ _ (0, 0) _ rfl E.blk Tryz.underlying84 rfl (by kernel_rfl) (.tmp .nil))) rfl ?_
  exact ⟨E.below, RZQ.no E.getW E.getW⟩
 |some n =>
  have H1 := Aside0.mk h1
  clear h1
  cases f with
  |false =>
   rw [if_neg (by decide)]
   go_enter Tryz.func162, Tryz.ntmps162
   go_wp2_with (first | ((with_reducible first | refine gate_box (by rfl) ?_ | refine gate_alloc (by rfl) ?_); refine bx_ E ?_; clear E; intro gb wb E; have q := E.cls; (repeat obtain ⟨_, _, q⟩ := q); clear q) | (go_at_call 80; refine env_call E (cut_of _ HC.out HS.out) ?_; clear E; rintro e wc E rfl; have q := E.cls; (repeat obtain ⟨_, _, q⟩ := q); clear q) | (go_at_call 95; refine env_call E (read_some _ H1.out HS1.out) ?_; clear E; rintro e wc E ⟨br, Ar, nr, cr, rfl, hw_⟩; replace E := E.wh hw_; clear hw_; have q := E.cls; (repeat obtain ⟨_, _, q⟩ := q); clear q) | ((with_reducible refine gate_stored (t := 77) (by rfl) ?_); refine st_ (fun ws hs_ => ?_); replace E := Env.pt2 hs_ E; clear hs_; have q := E.cls; (repeat obtain ⟨_, _, q⟩ := q); clear q) | ((with_reducible refine gate_stored (t := 84) (by rfl) ?_); refine st_ (fun ws hs_ => ?_); replace E := Env.pt4 hs_ E; clear hs_; have q := E.cls; (repeat obtain ⟨_, _, q⟩ := q); clear q) | (refine start_ (id := 4) (n := 6) (S := fun w' => Cls w' _) (ds := [4]) (bz 6 0) (by kernel_rfl) rfl rfl E.draw.cls (fun hH => ?_); replace E := E.draw; refine pu_ 3 (some 30) (bz 6 8) ?_; refine ta_ 0 (some 27) (bz 6 9) hH ?_; refine on_ 1 (some 28) (bz 6 11) (fun K hK => ?_); refine gs_ Tryz.func121 ?_; refine env_call E (of_calls (n := 1) (by omega) (by omega)) ?_; clear E; rintro e wc E ⟨br, Ar, nr, cr, rfl, hw_⟩; replace E := E.wh hw_; clear hw_; refine ⟨_, rfl, ?_⟩; refine hK.out _ _ E.cls (fun hH => ?_); clear hK K; refine nm_ (some 28) ?_; refine pu_ 2 (some 29) (bz 6 15) ?_; refine la_ 4 (none) (bz 6 31) (fun K hK => ?_); have q := E.cls; (repeat obtain ⟨_, _, q⟩ := q); clear q; refine sk_ (fun ws hs_ => ?_); replace E := Env.pt4 hs_ E; clear hs_; refine hK.out _ _ ?_; clear hK K; have q := E.cls; (repeat obtain ⟨_, _, q⟩ := q); clear q; refine pu_ 5 (some 3) (bz 6 63) ?_; refine done_ (by kernel_rfl) ?_; all_goals (have q := E.cls; (repeat obtain ⟨_, _, q⟩ := q); clear q)))
   refine bodyPost_ret (results_list (rs := [.cell _ 84, .tmp _]) rfl (by simp) (.cell _ _ _ (0, 0) _ rfl E.blk Tryz.underlying84 rfl (by kernel_rfl) (.tmp .nil))) rfl ?_
   exact ⟨E.below, RZQ.yes E.getW E.getW rfl rfl⟩
  |true =>
   rw [if_pos rfl]
   cases h2 : int? (bytesOf s2) with
   |none =>
    have H2 := Aside0.mk h2
    clear h2
    go_enter Tryz.func162, Tryz.ntmps162
    go_wp2_with (first | ((with_reducible first | refine gate_box (by rfl) ?_ | refine gate_alloc (by rfl) ?_); refine bx_ E ?_; clear E; intro gb wb E; have q := E.cls; (repeat obtain ⟨_, _, q⟩ := q); clear q) | (go_at_call 80; refine env_call E (cut_of _ HC.out HS.out) ?_; clear E; rintro e wc E rfl; have q := E.cls; (repeat obtain ⟨_, _, q⟩ := q); clear q) | (go_at_call 95; refine env_call E (read_some _ H1.out HS1.out) ?_; clear E; rintro e wc E ⟨br, Ar, nr, cr, rfl, hw_⟩; replace E := E.wh hw_; clear hw_; have q := E.cls; (repeat obtain ⟨_, _, q⟩ := q); clear q) | (go_at_call 95; refine env_call E (read_none _ H2.out HS2.out) ?_; clear E; rintro e wc E ⟨br, Ar, nr, cr, rfl, hw_⟩; replace E := E.wh hw_; clear hw_; have q := E.cls; (repeat obtain ⟨_, _, q⟩ := q); clear q) | ((with_reducible refine gate_stored (t := 77) (by rfl) ?_); refine st_ (fun ws hs_ => ?_); replace E := Env.pt2 hs_ E; clear hs_; have q := E.cls; (repeat obtain ⟨_, _, q⟩ := q); clear q) | ((with_reducible refine gate_stored (t := 84) (by rfl) ?_); refine st_ (fun ws hs_ => ?_); replace E := Env.pt4 hs_ E; clear hs_; have q := E.cls; (repeat obtain ⟨_, _, q⟩ := q); clear q) | (refine start_ (id := 6) (n := 21) (S := fun w' => Cls w' _) (ds := []) (bz 21 0) (by kernel_rfl) rfl rfl E.draw.cls (fun hH => ?_); replace E := E.draw; refine pu_ 0 (some 36) (bz 21 1) ?_; refine pu_ 1 (some 37) (bz 21 3) ?_; refine pu_ 2 (some 38) (bz 21 7) ?_; (first | (refine ta_ 3 (some 39) (bz 21 15) hH ?_) | (refine po_ 3 (some 39) (bz 21 15) ?_)); refine on_ 4 (some 40) (bz 21 31) (fun K hK => ?_); (first | (refine off_ (by rfl) ?_; refine hK.out _ _ E.cls (fun hH => ?_); clear hK K) | (refine gs_ Tryz.func84 ?_; refine env_call E (sign_calls E.getW) ?_; clear E; rintro e wc E rfl; refine ⟨_, rfl, ?_⟩; refine hK.out _ _ E.cls (fun hH => ?_); clear hK K)); refine nm_ (some 40) ?_; (first | (refine pu_ 5 (some 41) (bz 21 63) ?_) | (refine po_ 5 (some 41) (bz 21 63) ?_)); refine pu_ 6 (some 42) (bz 21 127) ?_; refine pu_ 7 (some 43) (bz 21 255) ?_; (first | (refine ta_ 8 (some 44) (bz 21 511) hH ?_) | (refine po_ 8 (some 44) (bz 21 511) ?_)); refine on_ 9 (some 45) (bz 21 1023) (fun K hK => ?_); (first | (refine off_ (by rfl) ?_; refine hK.out _ _ E.cls (fun hH => ?_); clear hK K) | (refine gs_ Tryz.func121 ?_; refine env_call E (of_calls (n := 1) (by omega) (by omega)) ?_; clear E; rintro e wc E ⟨br, Ar, nr, cr, rfl, hw_⟩; replace E := E.wh hw_; clear hw_; refine ⟨_, rfl, ?_⟩; refine hK.out _ _ E.cls (fun hH => ?_); clear hK K)); refine nm_ (some 45) ?_; refine on_ 10 (some 46) (bz 21 2047) (fun K hK => ?_); (first | (refine off_ (by rfl) ?_; refine hK.out _ _ E.cls (fun hH => ?_); clear hK K) | (refine gs_ Tryz.func141 ?_; refine env_call E (cmp_calls E.getW E.getW) ?_; clear E; rintro e wc E rfl; refine ⟨_, rfl, ?_⟩; refine hK.out _ _ E.cls (fun hH => ?_); clear hK K)); refine nm_ (some 46) ?_; (first | (refine pu_ 11 (some 47) (bz 21 4095) ?_) | (refine po_ 11 (some 47) (bz 21 4095) ?_)); refine pu_ 12 (some 48) (bz 21 8191) ?_; refine pu_ 13 (some 49) (bz 21 16383) ?_; (first | (refine ta_ 14 (some 50) (bz 21 32767) hH ?_) | (refine po_ 14 (some 50) (bz 21 32767) ?_)); (first | (refine ta_ 15 (some 51) (bz 21 65535) hH ?_) | (refine po_ 15 (some 51) (bz 21 65535) ?_)); refine on_ 16 (some 52) (bz 21 131071) (fun K hK => ?_); (first | (refine off_ (by rfl) ?_; refine hK.out _ _ E.cls (fun hH => ?_); clear hK K) | (refine gs_ Tryz.func155 ?_; refine env_call E (gcd_calls E.getW E.getW ((ln_text H1.out HS1.out).fits (by omega)) ((ln_text H2.out HS2.out).fits (by omega))) ?_; clear E; rintro e wc E ⟨br, Ar, nr, cr, rfl, hw_⟩; replace E := E.wh hw_; clear hw_; refine ⟨_, rfl, ?_⟩; refine hK.out _ _ E.cls (fun hH => ?_); clear hK K)); refine nm_ (some 52) ?_; refine on_ 17 (some 53) (bz 21 262143) (fun K hK => ?_); (first | (refine off_ (by rfl) ?_; refine hK.out _ _ E.cls (fun hH => ?_); clear hK K) | (refine gs_ Tryz.func121 ?_; refine env_call E (of_calls (n := 1) (by omega) (by omega)) ?_; clear E; rintro e wc E ⟨br, Ar, nr, cr, rfl, hw_⟩; replace E := E.wh hw_; clear hw_; refine ⟨_, rfl, ?_⟩; refine hK.out _ _ E.cls (fun hH => ?_); clear hK K)); refine nm_ (some 53) ?_; refine on_ 18 (some 54) (bz 21 524287) (fun K hK => ?_); (first | (refine off_ (by rfl) ?_; refine hK.out _ _ E.cls (fun hH => ?_); clear hK K) | (refine gs_ Tryz.func141 ?_; refine env_call E (cmp_calls E.getW E.getW) ?_; clear E; rintro e wc E rfl; refine ⟨_, rfl, ?_⟩; refine hK.out _ _ E.cls (fun hH => ?_); clear hK K)); refine nm_ (some 54) ?_; (first | (refine pu_ 19 (some 55) (bz 21 1048575) ?_) | (refine po_ 19 (some 55) (bz 21 1048575) ?_)); refine pu_ 20 (some 56) (bz 21 2097151) ?_; refine done_ (by kernel_rfl) ?_; all_goals (have q := E.cls; (repeat obtain ⟨_, _, q⟩ := q); clear q)))
    refine bodyPost_ret (results_list (rs := [.cell _ 84, .tmp _]) rfl (by simp) (.cell _ _ _ (0, 0) _ rfl E.blk Tryz.underlying84 rfl (by kernel_rfl) (.tmp .nil))) rfl ?_
    exact ⟨E.below, RZQ.no (Wh.zero _) (Wh.zero _)⟩
   |some d =>
    have H2 := Aside0.mk h2
    clear h2
    show Calls Tryz.prog 162 #[Value.string s] W fun e w' => Below W.heap.size W w' ∧ RZQ (if n ≠ 0 ∧ 1 < d ∧ n.gcd d = 1 then some (mkRat n d.toNat) else none) e w'
    by_cases c0 : n = 0
    ·rw [if_neg (fun h => h.1 c0)]
     have k0 : (sgnI n == 0) = true := by rw [c0]; rfl
     clear c0
     go_enter Tryz.func162, Tryz.ntmps162
     go_wp2_with (first | ((with_reducible first | refine gate_box (by rfl) ?_ | refine gate_alloc (by rfl) ?_); refine bx_ E ?_; clear E; intro gb wb E; have q := E.cls; (repeat obtain ⟨_, _, q⟩ := q); clear q) | (go_at_call 80; refine env_call E (cut_of _ HC.out HS.out) ?_; clear E; rintro e wc E rfl; have q := E.cls; (repeat obtain ⟨_, _, q⟩ := q); clear q) | (go_at_call 95; refine env_call E (read_some _ H1.out HS1.out) ?_; clear E; rintro e wc E ⟨br, Ar, nr, cr, rfl, hw_⟩; replace E := E.wh hw_; clear hw_; have q := E.cls; (repeat obtain ⟨_, _, q⟩ := q); clear q) | (go_at_call 95; refine env_call E (read_some _ H2.out HS2.out) ?_; clear E; rintro e wc E ⟨br, Ar, nr, cr, rfl, hw_⟩; replace E := E.wh hw_; clear hw_; have q := E.cls; (repeat obtain ⟨_, _, q⟩ := q); clear q) | ((with_reducible refine gate_stored (t := 77) (by rfl) ?_); refine st_ (fun ws hs_ => ?_); replace E := Env.pt2 hs_ E; clear hs_; have q := E.cls; (repeat obtain ⟨_, _, q⟩ := q); clear q) | ((with_reducible refine gate_stored (t := 84) (by rfl) ?_); refine st_ (fun ws hs_ => ?_); replace E := Env.pt4 hs_ E; clear hs_; have q := E.cls; (repeat obtain ⟨_, _, q⟩ := q); clear q) | (refine start_ (id := 6) (n := 21) (S := fun w' => Cls w' _) (ds := []) (bz 21 0) (by kernel_rfl) rfl rfl E.draw.cls (fun hH => ?_); replace E := E.draw; refine pu_ 0 (some 36) (bz 21 1) ?_; refine pu_ 1 (some 37) (bz 21 3) ?_; refine pu_ 2 (some 38) (bz 21 7) ?_; (first | (refine ta_ 3 (some 39) (bz 21 15) hH ?_) | (refine po_ 3 (some 39) (bz 21 15) ?_)); refine on_ 4 (some 40) (bz 21 31) (fun K hK => ?_); (first | (refine off_ (by rfl) ?_; refine hK.out _ _ E.cls (fun hH => ?_); clear hK K) | (refine gs_ Tryz.func84 ?_; refine env_call E (sign_calls E.getW) ?_; clear E; rintro e wc E rfl; refine ⟨_, rfl, ?_⟩; refine hK.out _ _ E.cls (fun hH => ?_); clear hK K)); refine nm_ (some 40) ?_; (first | (refine pu_ 5 (some 41) (bz 21 63) ?_) | (refine po_ 5 (some 41) (bz 21 63) ?_)); refine pu_ 6 (some 42) (bz 21 127) ?_; refine pu_ 7 (some 43) (bz 21 255) ?_; (first | (refine ta_ 8 (some 44) (bz 21 511) hH ?_) | (refine po_ 8 (some 44) (bz 21 511) ?_)); refine on_ 9 (some 45) (bz 21 1023) (fun K hK => ?_); (first | (refine off_ (by rfl) ?_; refine hK.out _ _ E.cls (fun hH => ?_); clear hK K) | (refine gs_ Tryz.func121 ?_; refine env_call E (of_calls (n := 1) (by omega) (by omega)) ?_; clear E; rintro e wc E ⟨br, Ar, nr, cr, rfl, hw_⟩; replace E := E.wh hw_; clear hw_; refine ⟨_, rfl, ?_⟩; refine hK.out _ _ E.cls (fun hH => ?_); clear hK K)); refine nm_ (some 45) ?_; refine on_ 10 (some 46) (bz 21 2047) (fun K hK => ?_); (first | (refine off_ (by rfl) ?_; refine hK.out _ _ E.cls (fun hH => ?_); clear hK K) | (refine gs_ Tryz.func141 ?_; refine env_call E (cmp_calls E.getW E.getW) ?_; clear E; rintro e wc E rfl; refine ⟨_, rfl, ?_⟩; refine hK.out _ _ E.cls (fun hH => ?_); clear hK K)); refine nm_ (some 46) ?_; (first | (refine pu_ 11 (some 47) (bz 21 4095) ?_) | (refine po_ 11 (some 47) (bz 21 4095) ?_)); refine pu_ 12 (some 48) (bz 21 8191) ?_; refine pu_ 13 (some 49) (bz 21 16383) ?_; (first | (refine ta_ 14 (some 50) (bz 21 32767) hH ?_) | (refine po_ 14 (some 50) (bz 21 32767) ?_)); (first | (refine ta_ 15 (some 51) (bz 21 65535) hH ?_) | (refine po_ 15 (some 51) (bz 21 65535) ?_)); refine on_ 16 (some 52) (bz 21 131071) (fun K hK => ?_); (first | (refine off_ (by rfl) ?_; refine hK.out _ _ E.cls (fun hH => ?_); clear hK K) | (refine gs_ Tryz.func155 ?_; refine env_call E (gcd_calls E.getW E.getW ((ln_text H1.out HS1.out).fits (by omega)) ((ln_text H2.out HS2.out).fits (by omega))) ?_; clear E; rintro e wc E ⟨br, Ar, nr, cr, rfl, hw_⟩; replace E := E.wh hw_; clear hw_; refine ⟨_, rfl, ?_⟩; refine hK.out _ _ E.cls (fun hH => ?_); clear hK K)); refine nm_ (some 52) ?_; refine on_ 17 (some 53) (bz 21 262143) (fun K hK => ?_); (first | (refine off_ (by rfl) ?_; refine hK.out _ _ E.cls (fun hH => ?_); clear hK K) | (refine gs_ Tryz.func121 ?_; refine env_call E (of_calls (n := 1) (by omega) (by omega)) ?_; clear E; rintro e wc E ⟨br, Ar, nr, cr, rfl, hw_⟩; replace E := E.wh hw_; clear hw_; refine ⟨_, rfl, ?_⟩; refine hK.out _ _ E.cls (fun hH => ?_); clear hK K)); refine nm_ (some 53) ?_; refine on_ 18 (some 54) (bz 21 524287) (fun K hK => ?_); (first | (refine off_ (by rfl) ?_; refine hK.out _ _ E.cls (fun hH => ?_); clear hK K) | (refine gs_ Tryz.func141 ?_; refine env_call E (cmp_calls E.getW E.getW) ?_; clear E; rintro e wc E rfl; refine ⟨_, rfl, ?_⟩; refine hK.out _ _ E.cls (fun hH => ?_); clear hK K)); refine nm_ (some 54) ?_; (first | (refine pu_ 19 (some 55) (bz 21 1048575) ?_) | (refine po_ 19 (some 55) (bz 21 1048575) ?_)); refine pu_ 20 (some 56) (bz 21 2097151) ?_; refine done_ (by kernel_rfl) ?_; all_goals (have q := E.cls; (repeat obtain ⟨_, _, q⟩ := q); clear q)))
     refine bodyPost_ret (results_list (rs := [.cell _ 84, .tmp _]) rfl (by simp) (.cell _ _ _ (0, 0) _ rfl E.blk Tryz.underlying84 rfl (by kernel_rfl) (.tmp .nil))) rfl ?_
     exact ⟨E.below, RZQ.no (Wh.zero _) (Wh.zero _)⟩
    ·have k0 : (sgnI n == 0) = false := beq_eq_false_iff_ne.mpr (fun h => c0 ((sgnI_zero n).1 h))
     by_cases c1 : 1 < d
     ·have k1 : decide (sgnI (d - 1) ≤ 0) = false := decide_eq_false (by have := (sgnI_pos (d - 1)).2 (by omega); omega)
      by_cases c2 : n.gcd d = 1
      ·rw [if_pos ⟨c0, c1, c2⟩]
       have k2 : (sgnI ((n.gcd d : Int) - 1) == 0) = true := by rw [c2]; rfl
       have HQ := Aside0.mk (mk_nd c1 c2)
       clear c0 c1 c2
       go_enter Tryz.func162, Tryz.ntmps162
       go_wp2_with (first | ((with_reducible first | refine gate_box (by rfl) ?_ | refine gate_alloc (by rfl) ?_); refine bx_ E ?_; clear E; intro gb wb E; have q := E.cls; (repeat obtain ⟨_, _, q⟩ := q); clear q) | (go_at_call 80; refine env_call E (cut_of _ HC.out HS.out) ?_; clear E; rintro e wc E rfl; have q := E.cls; (repeat obtain ⟨_, _, q⟩ := q); clear q) | (go_at_call 95; refine env_call E (read_some _ H1.out HS1.out) ?_; clear E; rintro e wc E ⟨br, Ar, nr, cr, rfl, hw_⟩; replace E := E.wh hw_; clear hw_; have q := E.cls; (repeat obtain ⟨_, _, q⟩ := q); clear q) | (go_at_call 95; refine env_call E (read_some _ H2.out HS2.out) ?_; clear E; rintro e wc E ⟨br, Ar, nr, cr, rfl, hw_⟩; replace E := E.wh hw_; clear hw_; have q := E.cls; (repeat obtain ⟨_, _, q⟩ := q); clear q) | ((with_reducible refine gate_stored (t := 77) (by rfl) ?_); refine st_ (fun ws hs_ => ?_); replace E := Env.pt2 hs_ E; clear hs_; have q := E.cls; (repeat obtain ⟨_, _, q⟩ := q); clear q) | ((with_reducible refine gate_stored (t := 84) (by rfl) ?_); refine st_ (fun ws hs_ => ?_); replace E := Env.pt4 hs_ E; clear hs_; have q := E.cls; (repeat obtain ⟨_, _, q⟩ := q); clear q) | (refine start_ (id := 6) (n := 21) (S := fun w' => Cls w' _) (ds := []) (bz 21 0) (by kernel_rfl) rfl rfl E.draw.cls (fun hH => ?_); replace E := E.draw; refine pu_ 0 (some 36) (bz 21 1) ?_; refine pu_ 1 (some 37) (bz 21 3) ?_; refine pu_ 2 (some 38) (bz 21 7) ?_; (first | (refine ta_ 3 (some 39) (bz 21 15) hH ?_) | (refine po_ 3 (some 39) (bz 21 15) ?_)); refine on_ 4 (some 40) (bz 21 31) (fun K hK => ?_); (first | (refine off_ (by rfl) ?_; refine hK.out _ _ E.cls (fun hH => ?_); clear hK K) | (refine gs_ Tryz.func84 ?_; refine env_call E (sign_calls E.getW) ?_; clear E; rintro e wc E rfl; refine ⟨_, rfl, ?_⟩; refine hK.out _ _ E.cls (fun hH => ?_); clear hK K)); refine nm_ (some 40) ?_; (first | (refine pu_ 5 (some 41) (bz 21 63) ?_) | (refine po_ 5 (some 41) (bz 21 63) ?_)); refine pu_ 6 (some 42) (bz 21 127) ?_; refine pu_ 7 (some 43) (bz 21 255) ?_; (first | (refine ta_ 8 (some 44) (bz 21 511) hH ?_) | (refine po_ 8 (some 44) (bz 21 511) ?_)); refine on_ 9 (some 45) (bz 21 1023) (fun K hK => ?_); (first | (refine off_ (by rfl) ?_; refine hK.out _ _ E.cls (fun hH => ?_); clear hK K) | (refine gs_ Tryz.func121 ?_; refine env_call E (of_calls (n := 1) (by omega) (by omega)) ?_; clear E; rintro e wc E ⟨br, Ar, nr, cr, rfl, hw_⟩; replace E := E.wh hw_; clear hw_; refine ⟨_, rfl, ?_⟩; refine hK.out _ _ E.cls (fun hH => ?_); clear hK K)); refine nm_ (some 45) ?_; refine on_ 10 (some 46) (bz 21 2047) (fun K hK => ?_); (first | (refine off_ (by rfl) ?_; refine hK.out _ _ E.cls (fun hH => ?_); clear hK K) | (refine gs_ Tryz.func141 ?_; refine env_call E (cmp_calls E.getW E.getW) ?_; clear E; rintro e wc E rfl; refine ⟨_, rfl, ?_⟩; refine hK.out _ _ E.cls (fun hH => ?_); clear hK K)); refine nm_ (some 46) ?_; (first | (refine pu_ 11 (some 47) (bz 21 4095) ?_) | (refine po_ 11 (some 47) (bz 21 4095) ?_)); refine pu_ 12 (some 48) (bz 21 8191) ?_; refine pu_ 13 (some 49) (bz 21 16383) ?_; (first | (refine ta_ 14 (some 50) (bz 21 32767) hH ?_) | (refine po_ 14 (some 50) (bz 21 32767) ?_)); (first | (refine ta_ 15 (some 51) (bz 21 65535) hH ?_) | (refine po_ 15 (some 51) (bz 21 65535) ?_)); refine on_ 16 (some 52) (bz 21 131071) (fun K hK => ?_); (first | (refine off_ (by rfl) ?_; refine hK.out _ _ E.cls (fun hH => ?_); clear hK K) | (refine gs_ Tryz.func155 ?_; refine env_call E (gcd_calls E.getW E.getW ((ln_text H1.out HS1.out).fits (by omega)) ((ln_text H2.out HS2.out).fits (by omega))) ?_; clear E; rintro e wc E ⟨br, Ar, nr, cr, rfl, hw_⟩; replace E := E.wh hw_; clear hw_; refine ⟨_, rfl, ?_⟩; refine hK.out _ _ E.cls (fun hH => ?_); clear hK K)); refine nm_ (some 52) ?_; refine on_ 17 (some 53) (bz 21 262143) (fun K hK => ?_); (first | (refine off_ (by rfl) ?_; refine hK.out _ _ E.cls (fun hH => ?_); clear hK K) | (refine gs_ Tryz.func121 ?_; refine env_call E (of_calls (n := 1) (by omega) (by omega)) ?_; clear E; rintro e wc E ⟨br, Ar, nr, cr, rfl, hw_⟩; replace E := E.wh hw_; clear hw_; refine ⟨_, rfl, ?_⟩; refine hK.out _ _ E.cls (fun hH => ?_); clear hK K)); refine nm_ (some 53) ?_; refine on_ 18 (some 54) (bz 21 524287) (fun K hK => ?_); (first | (refine off_ (by rfl) ?_; refine hK.out _ _ E.cls (fun hH => ?_); clear hK K) | (refine gs_ Tryz.func141 ?_; refine env_call E (cmp_calls E.getW E.getW) ?_; clear E; rintro e wc E rfl; refine ⟨_, rfl, ?_⟩; refine hK.out _ _ E.cls (fun hH => ?_); clear hK K)); refine nm_ (some 54) ?_; (first | (refine pu_ 19 (some 55) (bz 21 1048575) ?_) | (refine po_ 19 (some 55) (bz 21 1048575) ?_)); refine pu_ 20 (some 56) (bz 21 2097151) ?_; refine done_ (by kernel_rfl) ?_; all_goals (have q := E.cls; (repeat obtain ⟨_, _, q⟩ := q); clear q)))
       refine bodyPost_ret (results_list (rs := [.cell _ 84, .tmp _]) rfl (by simp) (.cell _ _ _ (0, 0) _ rfl E.blk Tryz.underlying84 rfl (by kernel_rfl) (.tmp .nil))) rfl ?_
       exact ⟨E.below, RZQ.yes E.getW E.getW HQ.out.1 HQ.out.2⟩
      ·rw [if_neg (fun h => c2 h.2.2)]
       have k2 : (sgnI ((n.gcd d : Int) - 1) == 0) = false := beq_eq_false_iff_ne.mpr (fun h => c2 (by have := (sgnI_zero _).1 h; omega))
       clear c0 c1 c2
       go_enter Tryz.func162, Tryz.ntmps162
       go_wp2_with (first | ((with_reducible first | refine gate_box (by rfl) ?_ | refine gate_alloc (by rfl) ?_); refine bx_ E ?_; clear E; intro gb wb E; have q := E.cls; (repeat obtain ⟨_, _, q⟩ := q); clear q) | (go_at_call 80; refine env_call E (cut_of _ HC.out HS.out) ?_; clear E; rintro e wc E rfl; have q := E.cls; (repeat obtain ⟨_, _, q⟩ := q); clear q) | (go_at_call 95; refine env_call E (read_some _ H1.out HS1.out) ?_; clear E; rintro e wc E ⟨br, Ar, nr, cr, rfl, hw_⟩; replace E := E.wh hw_; clear hw_; have q := E.cls; (repeat obtain ⟨_, _, q⟩ := q); clear q) | (go_at_call 95; refine env_call E (read_some _ H2.out HS2.out) ?_; clear E; rintro e wc E ⟨br, Ar, nr, cr, rfl, hw_⟩; replace E := E.wh hw_; clear hw_; have q := E.cls; (repeat obtain ⟨_, _, q⟩ := q); clear q) | ((with_reducible refine gate_stored (t := 77) (by rfl) ?_); refine st_ (fun ws hs_ => ?_); replace E := Env.pt2 hs_ E; clear hs_; have q := E.cls; (repeat obtain ⟨_, _, q⟩ := q); clear q) | ((with_reducible refine gate_stored (t := 84) (by rfl) ?_); refine st_ (fun ws hs_ => ?_); replace E := Env.pt4 hs_ E; clear hs_; have q := E.cls; (repeat obtain ⟨_, _, q⟩ := q); clear q) | (refine start_ (id := 6) (n := 21) (S := fun w' => Cls w' _) (ds := []) (bz 21 0) (by kernel_rfl) rfl rfl E.draw.cls (fun hH => ?_); replace E := E.draw; refine pu_ 0 (some 36) (bz 21 1) ?_; refine pu_ 1 (some 37) (bz 21 3) ?_; refine pu_ 2 (some 38) (bz 21 7) ?_; (first | (refine ta_ 3 (some 39) (bz 21 15) hH ?_) | (refine po_ 3 (some 39) (bz 21 15) ?_)); refine on_ 4 (some 40) (bz 21 31) (fun K hK => ?_); (first | (refine off_ (by rfl) ?_; refine hK.out _ _ E.cls (fun hH => ?_); clear hK K) | (refine gs_ Tryz.func84 ?_; refine env_call E (sign_calls E.getW) ?_; clear E; rintro e wc E rfl; refine ⟨_, rfl, ?_⟩; refine hK.out _ _ E.cls (fun hH => ?_); clear hK K)); refine nm_ (some 40) ?_; (first | (refine pu_ 5 (some 41) (bz 21 63) ?_) | (refine po_ 5 (some 41) (bz 21 63) ?_)); refine pu_ 6 (some 42) (bz 21 127) ?_; refine pu_ 7 (some 43) (bz 21 255) ?_; (first | (refine ta_ 8 (some 44) (bz 21 511) hH ?_) | (refine po_ 8 (some 44) (bz 21 511) ?_)); refine on_ 9 (some 45) (bz 21 1023) (fun K hK => ?_); (first | (refine off_ (by rfl) ?_; refine hK.out _ _ E.cls (fun hH => ?_); clear hK K) | (refine gs_ Tryz.func121 ?_; refine env_call E (of_calls (n := 1) (by omega) (by omega)) ?_; clear E; rintro e wc E ⟨br, Ar, nr, cr, rfl, hw_⟩; replace E := E.wh hw_; clear hw_; refine ⟨_, rfl, ?_⟩; refine hK.out _ _ E.cls (fun hH => ?_); clear hK K)); refine nm_ (some 45) ?_; refine on_ 10 (some 46) (bz 21 2047) (fun K hK => ?_); (first | (refine off_ (by rfl) ?_; refine hK.out _ _ E.cls (fun hH => ?_); clear hK K) | (refine gs_ Tryz.func141 ?_; refine env_call E (cmp_calls E.getW E.getW) ?_; clear E; rintro e wc E rfl; refine ⟨_, rfl, ?_⟩; refine hK.out _ _ E.cls (fun hH => ?_); clear hK K)); refine nm_ (some 46) ?_; (first | (refine pu_ 11 (some 47) (bz 21 4095) ?_) | (refine po_ 11 (some 47) (bz 21 4095) ?_)); refine pu_ 12 (some 48) (bz 21 8191) ?_; refine pu_ 13 (some 49) (bz 21 16383) ?_; (first | (refine ta_ 14 (some 50) (bz 21 32767) hH ?_) | (refine po_ 14 (some 50) (bz 21 32767) ?_)); (first | (refine ta_ 15 (some 51) (bz 21 65535) hH ?_) | (refine po_ 15 (some 51) (bz 21 65535) ?_)); refine on_ 16 (some 52) (bz 21 131071) (fun K hK => ?_); (first | (refine off_ (by rfl) ?_; refine hK.out _ _ E.cls (fun hH => ?_); clear hK K) | (refine gs_ Tryz.func155 ?_; refine env_call E (gcd_calls E.getW E.getW ((ln_text H1.out HS1.out).fits (by omega)) ((ln_text H2.out HS2.out).fits (by omega))) ?_; clear E; rintro e wc E ⟨br, Ar, nr, cr, rfl, hw_⟩; replace E := E.wh hw_; clear hw_; refine ⟨_, rfl, ?_⟩; refine hK.out _ _ E.cls (fun hH => ?_); clear hK K)); refine nm_ (some 52) ?_; refine on_ 17 (some 53) (bz 21 262143) (fun K hK => ?_); (first | (refine off_ (by rfl) ?_; refine hK.out _ _ E.cls (fun hH => ?_); clear hK K) | (refine gs_ Tryz.func121 ?_; refine env_call E (of_calls (n := 1) (by omega) (by omega)) ?_; clear E; rintro e wc E ⟨br, Ar, nr, cr, rfl, hw_⟩; replace E := E.wh hw_; clear hw_; refine ⟨_, rfl, ?_⟩; refine hK.out _ _ E.cls (fun hH => ?_); clear hK K)); refine nm_ (some 53) ?_; refine on_ 18 (some 54) (bz 21 524287) (fun K hK => ?_); (first | (refine off_ (by rfl) ?_; refine hK.out _ _ E.cls (fun hH => ?_); clear hK K) | (refine gs_ Tryz.func141 ?_; refine env_call E (cmp_calls E.getW E.getW) ?_; clear E; rintro e wc E rfl; refine ⟨_, rfl, ?_⟩; refine hK.out _ _ E.cls (fun hH => ?_); clear hK K)); refine nm_ (some 54) ?_; (first | (refine pu_ 19 (some 55) (bz 21 1048575) ?_) | (refine po_ 19 (some 55) (bz 21 1048575) ?_)); refine pu_ 20 (some 56) (bz 21 2097151) ?_; refine done_ (by kernel_rfl) ?_; all_goals (have q := E.cls; (repeat obtain ⟨_, _, q⟩ := q); clear q)))
       refine bodyPost_ret (results_list (rs := [.cell _ 84, .tmp _]) rfl (by simp) (.cell _ _ _ (0, 0) _ rfl E.blk Tryz.underlying84 rfl (by kernel_rfl) (.tmp .nil))) rfl ?_
       exact ⟨E.below, RZQ.no (Wh.zero _) (Wh.zero _)⟩
     ·rw [if_neg (fun h => c1 h.2.1)]
      have k1 : decide (sgnI (d - 1) ≤ 0) = true := decide_eq_true (by have := mt (sgnI_pos (d - 1)).1 (by omega); omega)
      clear c0 c1
      go_enter Tryz.func162, Tryz.ntmps162
      go_wp2_with (first | ((with_reducible first | refine gate_box (by rfl) ?_ | refine gate_alloc (by rfl) ?_); refine bx_ E ?_; clear E; intro gb wb E; have q := E.cls; (repeat obtain ⟨_, _, q⟩ := q); clear q) | (go_at_call 80; refine env_call E (cut_of _ HC.out HS.out) ?_; clear E; rintro e wc E rfl; have q := E.cls; (repeat obtain ⟨_, _, q⟩ := q); clear q) | (go_at_call 95; refine env_call E (read_some _ H1.out HS1.out) ?_; clear E; rintro e wc E ⟨br, Ar, nr, cr, rfl, hw_⟩; replace E := E.wh hw_; clear hw_; have q := E.cls; (repeat obtain ⟨_, _, q⟩ := q); clear q) | (go_at_call 95; refine env_call E (read_some _ H2.out HS2.out) ?_; clear E; rintro e wc E ⟨br, Ar, nr, cr, rfl, hw_⟩; replace E := E.wh hw_; clear hw_; have q := E.cls; (repeat obtain ⟨_, _, q⟩ := q); clear q) | ((with_reducible refine gate_stored (t := 77) (by rfl) ?_); refine st_ (fun ws hs_ => ?_); replace E := Env.pt2 hs_ E; clear hs_; have q := E.cls; (repeat obtain ⟨_, _, q⟩ := q); clear q) | ((with_reducible refine gate_stored (t := 84) (by rfl) ?_); refine st_ (fun ws hs_ => ?_); replace E := Env.pt4 hs_ E; clear hs_; have q := E.cls; (repeat obtain ⟨_, _, q⟩ := q); clear q) | (refine start_ (id := 6) (n := 21) (S := fun w' => Cls w' _) (ds := []) (bz 21 0) (by kernel_rfl) rfl rfl E.draw.cls (fun hH => ?_); replace E := E.draw; refine pu_ 0 (some 36) (bz 21 1) ?_; refine pu_ 1 (some 37) (bz 21 3) ?_; refine pu_ 2 (some 38) (bz 21 7) ?_; (first | (refine ta_ 3 (some 39) (bz 21 15) hH ?_) | (refine po_ 3 (some 39) (bz 21 15) ?_)); refine on_ 4 (some 40) (bz 21 31) (fun K hK => ?_); (first | (refine off_ (by rfl) ?_; refine hK.out _ _ E.cls (fun hH => ?_); clear hK K) | (refine gs_ Tryz.func84 ?_; refine env_call E (sign_calls E.getW) ?_; clear E; rintro e wc E rfl; refine ⟨_, rfl, ?_⟩; refine hK.out _ _ E.cls (fun hH => ?_); clear hK K)); refine nm_ (some 40) ?_; (first | (refine pu_ 5 (some 41) (bz 21 63) ?_) | (refine po_ 5 (some 41) (bz 21 63) ?_)); refine pu_ 6 (some 42) (bz 21 127) ?_; refine pu_ 7 (some 43) (bz 21 255) ?_; (first | (refine ta_ 8 (some 44) (bz 21 511) hH ?_) | (refine po_ 8 (some 44) (bz 21 511) ?_)); refine on_ 9 (some 45) (bz 21 1023) (fun K hK => ?_); (first | (refine off_ (by rfl) ?_; refine hK.out _ _ E.cls (fun hH => ?_); clear hK K) | (refine gs_ Tryz.func121 ?_; refine env_call E (of_calls (n := 1) (by omega) (by omega)) ?_; clear E; rintro e wc E ⟨br, Ar, nr, cr, rfl, hw_⟩; replace E := E.wh hw_; clear hw_; refine ⟨_, rfl, ?_⟩; refine hK.out _ _ E.cls (fun hH => ?_); clear hK K)); refine nm_ (some 45) ?_; refine on_ 10 (some 46) (bz 21 2047) (fun K hK => ?_); (first | (refine off_ (by rfl) ?_; refine hK.out _ _ E.cls (fun hH => ?_); clear hK K) | (refine gs_ Tryz.func141 ?_; refine env_call E (cmp_calls E.getW E.getW) ?_; clear E; rintro e wc E rfl; refine ⟨_, rfl, ?_⟩; refine hK.out _ _ E.cls (fun hH => ?_); clear hK K)); refine nm_ (some 46) ?_; (first | (refine pu_ 11 (some 47) (bz 21 4095) ?_) | (refine po_ 11 (some 47) (bz 21 4095) ?_)); refine pu_ 12 (some 48) (bz 21 8191) ?_; refine pu_ 13 (some 49) (bz 21 16383) ?_; (first | (refine ta_ 14 (some 50) (bz 21 32767) hH ?_) | (refine po_ 14 (some 50) (bz 21 32767) ?_)); (first | (refine ta_ 15 (some 51) (bz 21 65535) hH ?_) | (refine po_ 15 (some 51) (bz 21 65535) ?_)); refine on_ 16 (some 52) (bz 21 131071) (fun K hK => ?_); (first | (refine off_ (by rfl) ?_; refine hK.out _ _ E.cls (fun hH => ?_); clear hK K) | (refine gs_ Tryz.func155 ?_; refine env_call E (gcd_calls E.getW E.getW ((ln_text H1.out HS1.out).fits (by omega)) ((ln_text H2.out HS2.out).fits (by omega))) ?_; clear E; rintro e wc E ⟨br, Ar, nr, cr, rfl, hw_⟩; replace E := E.wh hw_; clear hw_; refine ⟨_, rfl, ?_⟩; refine hK.out _ _ E.cls (fun hH => ?_); clear hK K)); refine nm_ (some 52) ?_; refine on_ 17 (some 53) (bz 21 262143) (fun K hK => ?_); (first | (refine off_ (by rfl) ?_; refine hK.out _ _ E.cls (fun hH => ?_); clear hK K) | (refine gs_ Tryz.func121 ?_; refine env_call E (of_calls (n := 1) (by omega) (by omega)) ?_; clear E; rintro e wc E ⟨br, Ar, nr, cr, rfl, hw_⟩; replace E := E.wh hw_; clear hw_; refine ⟨_, rfl, ?_⟩; refine hK.out _ _ E.cls (fun hH => ?_); clear hK K)); refine nm_ (some 53) ?_; refine on_ 18 (some 54) (bz 21 524287) (fun K hK => ?_); (first | (refine off_ (by rfl) ?_; refine hK.out _ _ E.cls (fun hH => ?_); clear hK K) | (refine gs_ Tryz.func141 ?_; refine env_call E (cmp_calls E.getW E.getW) ?_; clear E; rintro e wc E rfl; refine ⟨_, rfl, ?_⟩; refine hK.out _ _ E.cls (fun hH => ?_); clear hK K)); refine nm_ (some 54) ?_; (first | (refine pu_ 19 (some 55) (bz 21 1048575) ?_) | (refine po_ 19 (some 55) (bz 21 1048575) ?_)); refine pu_ 20 (some 56) (bz 21 2097151) ?_; refine done_ (by kernel_rfl) ?_; all_goals (have q := E.cls; (repeat obtain ⟨_, _, q⟩ := q); clear q)))
      refine bodyPost_ret (results_list (rs := [.cell _ 84, .tmp _]) rfl (by simp) (.cell _ _ _ (0, 0) _ rfl E.blk Tryz.underlying84 rfl (by kernel_rfl) (.tmp .nil))) rfl ?_
      exact ⟨E.below, RZQ.no (Wh.zero _) (Wh.zero _)⟩
def lgq (q : Rat) : Bool := Lg q.num || Lg q.den
def rv (s : ByteArray) : Option Rat := (rat? (bytesOf s)).bind fun q => if lgq q = true then none else some q
theorem rv_some {s : ByteArray} {q : Rat} (h : rv s = some q) : rat? (bytesOf s) = some q ∧ lgq q = false := by
 obtain ⟨r, hr, h⟩ := Option.bind_eq_some_iff.1 h
 split at h
 ·cases h
 next hl => cases h; exact ⟨hr, by simpa using hl⟩
theorem rv_none {s : ByteArray} (h : rv s = none) : rat? (bytesOf s) = none ∨ ∃ q, rat? (bytesOf s) = some q ∧ lgq q = true := by
 unfold rv at h
 cases hr : rat? (bytesOf s) with
 |none => exact .inl rfl
 |some q =>
  rw [hr] at h
  refine .inr ⟨q, rfl, ?_⟩
  cases hl : lgq q with
  |true => rfl
  |false => simp [hl] at h
theorem rv_ln {q : Rat} (h : lgq q = false) : Ln q.num 112 ∧ Ln (q.den : Int) 112 := by
 unfold lgq at h
 rw [Bool.or_eq_false_iff] at h
 exact ⟨ln_short h.1, ln_short h.2⟩
theorem ln_rat {s : ByteArray} {q : Rat} (h : rat? (bytesOf s) = some q) (hs : s.size ≤ 9000000000000) : Ln q.num 1000000000000 ∧ Ln (q.den : Int) 1000000000000 := by
 have h1 := congrArg List.length (rat?_eq h)
 rw [bytesOf_size, rtx] at h1
 have h2 := nd_tx q.num
 have h3 := nd_tx (q.den : Int)
 split at h1
 next hd =>
  refine ⟨(ln_nd (k := 9000000000000) (by omega)).mono (by omega), ?_⟩
  rw [hd]
  exact ln_one.mono (by omega)
 next hd =>
  rw [List.length_append, List.length_cons] at h1
  exact ⟨(ln_nd (k := 9000000000000) (by omega)).mono (by omega), (ln_nd (k := 9000000000000) (by omega)).mono (by omega)⟩
def RP (n d : Int) (f : Bool) (e : Ending) (w' : World) : Prop := ∃ b A x c b' A' x' c', e = .returned (.tuple #[.agg #[.bool b, .slice A x c, .bool b', .slice A' x' c'], .bool f]) ∧ Wh w' b (.slice A x c) n ∧ Wh w' b' (.slice A' x' c') d
def RPz (f : Bool) (e : Ending) (w' : World) : Prop := ∃ z z' b A x c b' A' x' c', e = .returned (.tuple #[.agg #[.bool b, .slice A x c, .bool b', .slice A' x' c'], .bool f]) ∧ Wh w' b (.slice A x c) z ∧ Wh w' b' (.slice A' x' c') z'
theorem readrat_some (W : World) {s : ByteArray} {q : Rat} (h : rat? (bytesOf s) = some q) (hs : s.size ≤ 9000000000000) : Calls Tryz.prog 162 #[.string s] W fun e w' => Below W.heap.size W w' ∧ RP q.num q.den true e w' :=
 (readrat_calls W s hs).mono fun e w' ⟨hb, hr⟩ => by
  rw [h] at hr
  obtain ⟨b, A, x, c, b', A', x', c', z, z', rfl, h1, h2, h3⟩ := hr
  obtain ⟨rfl, rfl⟩ := h3 q rfl
  exact ⟨hb, _, _, _, _, _, _, _, _, rfl, h1, h2⟩
theorem readrat_none (W : World) {s : ByteArray} (h : rat? (bytesOf s) = none) (hs : s.size ≤ 9000000000000) : Calls Tryz.prog 162 #[.string s] W fun e w' => Below W.heap.size W w' ∧ RPz false e w' :=
 (readrat_calls W s hs).mono fun e w' ⟨hb, hr⟩ => by
  rw [h] at hr
  obtain ⟨b, A, x, c, b', A', x', c', z, z', rfl, h1, h2, h3⟩ := hr
  exact ⟨hb, _, _, _, _, _, _, _, _, _, _, rfl, h1, h2⟩
theorem rr_some (W : World) {s : ByteArray} {q : Rat} (h : rv s = some q) (hs : s.size ≤ 9000000000000) : Calls Tryz.prog 104 #[.string s] W fun e w' => Below W.heap.size W w' ∧ RP q.num q.den true e w' := by
 have E := Env.start W
 have hr := (rv_some h).1
 have HR := Aside0.mk hr
 have HS := Aside0.mk hs
 have HL := Aside0.mk (rv_ln (rv_some h).2)
 have hl : (Lg q.num || Lg (q.den : Int)) = false := (rv_some h).2
 clear hr h hs
 go_enter Tryz.func104, Tryz.ntmps104
 go_wp2_with (first | ((with_reducible first | refine gate_box (by rfl) ?_ | refine gate_alloc (by rfl) ?_); refine bx_ E ?_; clear E; intro gb wb E; have q := E.cls; (repeat obtain ⟨_, _, q⟩ := q); clear q) | (go_at_call 162; refine env_call E (readrat_some _ HR.out HS.out) ?_; clear E; rintro e wc E ⟨br, Ar, nr, cr, br2, Ar2, nr2, cr2, rfl, hw_, hw2_⟩; replace E := (E.wh hw_).wh hw2_; clear hw_ hw2_; have q := E.cls; (repeat obtain ⟨_, _, q⟩ := q); clear q) | ((with_reducible refine gate_stored (t := 77) (by rfl) ?_); refine st_ (fun ws hs_ => ?_); replace E := Env.pt2 hs_ E; clear hs_; have q := E.cls; (repeat obtain ⟨_, _, q⟩ := q); clear q) | ((with_reducible refine gate_stored (t := 84) (by rfl) ?_); refine st_ (fun ws hs_ => ?_); replace E := Env.pt4 hs_ E; clear hs_; have q := E.cls; (repeat obtain ⟨_, _, q⟩ := q); clear q) | (refine start_ (id := 2) (n := 9) (S := fun w' => Cls w' _) (ds := [7]) (bz 9 0) (by kernel_rfl) rfl rfl E.draw.cls (fun hH => ?_); replace E := E.draw; refine pu_ 1 (some 12) (bz 9 2) ?_; refine pu_ 2 (some 13) (bz 9 6) ?_; refine ta_ 0 (some 11) (bz 9 7) hH ?_; (first | (refine ta_ 3 (some 14) (bz 9 15) hH ?_) | (refine po_ 3 (some 14) (bz 9 15) ?_)); refine on_ 4 (some 15) (bz 9 31) (fun K hK => ?_); (first | (refine off_ (by rfl) ?_; refine hK.out _ _ E.cls (fun hH => ?_); clear hK K) | (refine gs_ Tryz.func154 ?_; refine env_call E (rlong_calls E.getW E.getW (HL.out.1.fits (by omega)) (HL.out.2.fits (by omega))) ?_; clear E; rintro e wc E rfl; refine ⟨_, rfl, ?_⟩; refine hK.out _ _ E.cls (fun hH => ?_); clear hK K)); refine nm_ (some 15) ?_; (first | (refine pu_ 5 (some 16) (bz 9 63) ?_) | (refine po_ 5 (some 16) (bz 9 63) ?_)); refine pu_ 6 (some 17) (bz 9 127) ?_; refine la_ 7 (none) (bz 9 255) (fun K hK => ?_); have q := E.cls; (repeat obtain ⟨_, _, q⟩ := q); clear q; refine sk_ (fun ws hs_ => ?_); replace E := Env.pt4 hs_ E; clear hs_; refine hK.out _ _ ?_; clear hK K; have q := E.cls; (repeat obtain ⟨_, _, q⟩ := q); clear q; refine pu_ 8 (some 3) (bz 9 511) ?_; refine done_ (by kernel_rfl) ?_; all_goals (have q := E.cls; (repeat obtain ⟨_, _, q⟩ := q); clear q)))
 refine bodyPost_ret (results_list (rs := [.cell _ 84, .tmp _]) rfl (by simp) (.cell _ _ _ (0, 0) _ rfl E.blk Tryz.underlying84 rfl (by kernel_rfl) (.tmp .nil))) rfl ?_
 rw [hl]
 exact ⟨E.below, _, _, _, _, _, _, _, _, rfl, E.getW, E.getW⟩
theorem rr_none (W : World) {s : ByteArray} (h : rv s = none) (hs : s.size ≤ 9000000000000) : Calls Tryz.prog 104 #[.string s] W fun e w' => Below W.heap.size W w' ∧ RPz false e w' := by
 have E := Env.start W
 have HS := Aside0.mk hs
 rcases rv_none h with h | ⟨q, h, hl⟩
 ·have HR := Aside0.mk h
  clear h hs
  go_enter Tryz.func104, Tryz.ntmps104
  go_wp2_with (first | ((with_reducible first | refine gate_box (by rfl) ?_ | refine gate_alloc (by rfl) ?_); refine bx_ E ?_; clear E; intro gb wb E; have q := E.cls; (repeat obtain ⟨_, _, q⟩ := q); clear q) | (go_at_call 162; refine env_call E (readrat_none _ HR.out HS.out) ?_; clear E; rintro e wc E ⟨zr, zr2, br, Ar, nr, cr, br2, Ar2, nr2, cr2, rfl, hw_, hw2_⟩; replace E := (E.wh hw_).wh hw2_; clear hw_ hw2_; have q := E.cls; (repeat obtain ⟨_, _, q⟩ := q); clear q) | ((with_reducible refine gate_stored (t := 77) (by rfl) ?_); refine st_ (fun ws hs_ => ?_); replace E := Env.pt2 hs_ E; clear hs_; have q := E.cls; (repeat obtain ⟨_, _, q⟩ := q); clear q) | ((with_reducible refine gate_stored (t := 84) (by rfl) ?_); refine st_ (fun ws hs_ => ?_); replace E := Env.pt4 hs_ E; clear hs_; have q := E.cls; (repeat obtain ⟨_, _, q⟩ := q); clear q) | (refine start_ (id := 2) (n := 9) (S := fun w' => Cls w' _) (ds := [7]) (bz 9 0) (by kernel_rfl) rfl rfl E.draw.cls (fun hH => ?_); replace E := E.draw; refine pu_ 1 (some 12) (bz 9 2) ?_; refine pu_ 2 (some 13) (bz 9 6) ?_; refine ta_ 0 (some 11) (bz 9 7) hH ?_; (first | (refine ta_ 3 (some 14) (bz 9 15) hH ?_) | (refine po_ 3 (some 14) (bz 9 15) ?_)); refine on_ 4 (some 15) (bz 9 31) (fun K hK => ?_); (first | (refine off_ (by rfl) ?_; refine hK.out _ _ E.cls (fun hH => ?_); clear hK K) | (refine gs_ Tryz.func154 ?_; refine env_call E (rlong_calls E.getW E.getW (by omega) (by omega)) ?_; clear E; rintro e wc E rfl; refine ⟨_, rfl, ?_⟩; refine hK.out _ _ E.cls (fun hH => ?_); clear hK K)); refine nm_ (some 15) ?_; (first | (refine pu_ 5 (some 16) (bz 9 63) ?_) | (refine po_ 5 (some 16) (bz 9 63) ?_)); refine pu_ 6 (some 17) (bz 9 127) ?_; refine la_ 7 (none) (bz 9 255) (fun K hK => ?_); have q := E.cls; (repeat obtain ⟨_, _, q⟩ := q); clear q; refine sk_ (fun ws hs_ => ?_); replace E := Env.pt4 hs_ E; clear hs_; refine hK.out _ _ ?_; clear hK K; have q := E.cls; (repeat obtain ⟨_, _, q⟩ := q); clear q; refine pu_ 8 (some 3) (bz 9 511) ?_; refine done_ (by kernel_rfl) ?_; all_goals (have q := E.cls; (repeat obtain ⟨_, _, q⟩ := q); clear q)))
  refine bodyPost_ret (results_list (rs := [.cell _ 84, .tmp _]) rfl (by simp) (.cell _ _ _ (0, 0) _ rfl E.blk Tryz.underlying84 rfl (by kernel_rfl) (.tmp .nil))) rfl ?_
  exact ⟨E.below, _, _, _, _, _, _, _, _, _, _, rfl, E.getW, E.getW⟩
 ·have HR := Aside0.mk h
  have HL := Aside0.mk (ln_rat h hs)
  have hl : (Lg q.num || Lg (q.den : Int)) = true := hl
  clear h hs
  go_enter Tryz.func104, Tryz.ntmps104
  go_wp2_with (first | ((with_reducible first | refine gate_box (by rfl) ?_ | refine gate_alloc (by rfl) ?_); refine bx_ E ?_; clear E; intro gb wb E; have q := E.cls; (repeat obtain ⟨_, _, q⟩ := q); clear q) | (go_at_call 162; refine env_call E (readrat_some _ HR.out HS.out) ?_; clear E; rintro e wc E ⟨br, Ar, nr, cr, br2, Ar2, nr2, cr2, rfl, hw_, hw2_⟩; replace E := (E.wh hw_).wh hw2_; clear hw_ hw2_; have q := E.cls; (repeat obtain ⟨_, _, q⟩ := q); clear q) | ((with_reducible refine gate_stored (t := 77) (by rfl) ?_); refine st_ (fun ws hs_ => ?_); replace E := Env.pt2 hs_ E; clear hs_; have q := E.cls; (repeat obtain ⟨_, _, q⟩ := q); clear q) | ((with_reducible refine gate_stored (t := 84) (by rfl) ?_); refine st_ (fun ws hs_ => ?_); replace E := Env.pt4 hs_ E; clear hs_; have q := E.cls; (repeat obtain ⟨_, _, q⟩ := q); clear q) | (refine start_ (id := 2) (n := 9) (S := fun w' => Cls w' _) (ds := [7]) (bz 9 0) (by kernel_rfl) rfl rfl E.draw.cls (fun hH => ?_); replace E := E.draw; refine pu_ 1 (some 12) (bz 9 2) ?_; refine pu_ 2 (some 13) (bz 9 6) ?_; refine ta_ 0 (some 11) (bz 9 7) hH ?_; (first | (refine ta_ 3 (some 14) (bz 9 15) hH ?_) | (refine po_ 3 (some 14) (bz 9 15) ?_)); refine on_ 4 (some 15) (bz 9 31) (fun K hK => ?_); (first | (refine off_ (by rfl) ?_; refine hK.out _ _ E.cls (fun hH => ?_); clear hK K) | (refine gs_ Tryz.func154 ?_; refine env_call E (rlong_calls E.getW E.getW (HL.out.1.fits (by omega)) (HL.out.2.fits (by omega))) ?_; clear E; rintro e wc E rfl; refine ⟨_, rfl, ?_⟩; refine hK.out _ _ E.cls (fun hH => ?_); clear hK K)); refine nm_ (some 15) ?_; (first | (refine pu_ 5 (some 16) (bz 9 63) ?_) | (refine po_ 5 (some 16) (bz 9 63) ?_)); refine pu_ 6 (some 17) (bz 9 127) ?_; refine la_ 7 (none) (bz 9 255) (fun K hK => ?_); have q := E.cls; (repeat obtain ⟨_, _, q⟩ := q); clear q; refine sk_ (fun ws hs_ => ?_); replace E := Env.pt4 hs_ E; clear hs_; refine hK.out _ _ ?_; clear hK K; have q := E.cls; (repeat obtain ⟨_, _, q⟩ := q); clear q; refine pu_ 8 (some 3) (bz 9 511) ?_; refine done_ (by kernel_rfl) ?_; all_goals (have q := E.cls; (repeat obtain ⟨_, _, q⟩ := q); clear q)))
  refine bodyPost_ret (results_list (rs := [.cell _ 84, .tmp _]) rfl (by simp) (.cell _ _ _ (0, 0) _ rfl E.blk Tryz.underlying84 rfl (by kernel_rfl) (.tmp .nil))) rfl ?_
  rw [hl]
  exact ⟨E.below, _, _, _, _, _, _, _, _, _, _, rfl, E.getW, E.getW⟩
def resA (q : Rat) : ByteArray := if lgq q = true then ⟨#[]⟩ else RT q
def resE (q : Rat) : Int := if lgq q = true then 3 else 0
section
variable {W : World} {b b' : Bool} {A A' : Option Addr} {n c n' c' : Nat} {z z' : Int}
theorem Lg_one : Lg 1 = false := by
 refine decide_eq_false ?_
 have := (nd_le 1 1).2 (by decide)
 show ¬ 1000 < nd 1
 omega
theorem Lg_zero : Lg 0 = false := by
 refine decide_eq_false ?_
 show ¬ 1000 < nd 0
 rw [nd_zero]
 omega
theorem Lg_dn (d : Int) : Lg (dn d) = Lg d := by
 unfold dn
 split
 next h => rw [h, Lg_one, Lg_zero]
 ·rfl
theorem result_calls {q : Rat} (h : Wh W b (.slice A n c) z) (h' : Wh W b' (.slice A' n' c') z') (hn : z = q.num) (hd : dn z' = q.den) (l1 : Ln z 1000000000000) (l2 : Ln z' 1000000000000) :
  Calls Tryz.prog 87 #[.agg #[.bool b, .slice A n c, .bool b', .slice A' n' c']] W fun e w' => Below W.heap.size W w' ∧ e = .returned (.tuple #[.string (resA q), .int .i64 (resE q)]) := by
 have E := ((Env.start W).wh h).wh h'
 have HN := Aside0.mk hn
 have HD := Aside0.mk hd
 have L1 := Aside0.mk l1
 have L2 := Aside0.mk l2
 have hlq : (Lg z || Lg z') = lgq q := by
  unfold lgq
  rw [hn, ← hd, Lg_dn]
 cases hl : lgq q with
 |true =>
  rw [hl] at hlq
  have e1 : resA q = ⟨#[]⟩ := if_pos hl
  have e2 : resE q = 3 := if_pos hl
  rw [e1, e2]
  clear h h' hn hd l1 l2 hl e1 e2
  go_enter Tryz.func87, Tryz.ntmps87
  go_wp2_with (first | ((with_reducible first | refine gate_box (by rfl) ?_ | refine gate_alloc (by rfl) ?_); refine bx_ E ?_; clear E; intro gb wb E; have q := E.cls; (repeat obtain ⟨_, _, q⟩ := q); clear q) | ((with_reducible refine gate_stored (t := 77) (by rfl) ?_); refine st_ (fun ws hs_ => ?_); replace E := Env.pt2 hs_ E; clear hs_; have q := E.cls; (repeat obtain ⟨_, _, q⟩ := q); clear q) | ((with_reducible refine gate_stored (t := 84) (by rfl) ?_); refine st_ (fun ws hs_ => ?_); replace E := Env.pt4 hs_ E; clear hs_; have q := E.cls; (repeat obtain ⟨_, _, q⟩ := q); clear q) | (go_at_call 154; refine env_call E (rlong_calls E.getW E.getW (L1.out.fits (by omega)) (L2.out.fits (by omega))) ?_; clear E; rintro e wc E rfl; have q := E.cls; (repeat obtain ⟨_, _, q⟩ := q); clear q))
  refine bodyPost_ret (results_list (rs := [.tmp _, .tmp _]) rfl (by simp) (.tmp (.tmp .nil))) rfl ?_
  exact ⟨E.below, rfl⟩
 |false =>
  rw [hl] at hlq
  have e1 : resA q = RT q := if_neg (by rw [hl]; decide)
  have e2 : resE q = 0 := if_neg (by rw [hl]; decide)
  rw [e1, e2]
  clear h h' hn hd l1 l2 hl e1 e2
  go_enter Tryz.func87, Tryz.ntmps87
  go_wp2_with (first | ((with_reducible first | refine gate_box (by rfl) ?_ | refine gate_alloc (by rfl) ?_); refine bx_ E ?_; clear E; intro gb wb E; have q := E.cls; (repeat obtain ⟨_, _, q⟩ := q); clear q) | ((with_reducible refine gate_stored (t := 77) (by rfl) ?_); refine st_ (fun ws hs_ => ?_); replace E := Env.pt2 hs_ E; clear hs_; have q := E.cls; (repeat obtain ⟨_, _, q⟩ := q); clear q) | ((with_reducible refine gate_stored (t := 84) (by rfl) ?_); refine st_ (fun ws hs_ => ?_); replace E := Env.pt4 hs_ E; clear hs_; have q := E.cls; (repeat obtain ⟨_, _, q⟩ := q); clear q) | (go_at_call 154; refine env_call E (rlong_calls E.getW E.getW (L1.out.fits (by omega)) (L2.out.fits (by omega))) ?_; clear E; rintro e wc E rfl; have q := E.cls; (repeat obtain ⟨_, _, q⟩ := q); clear q) | (go_at_call 96; refine env_call E (rtext_calls (q := q) E.getW E.getW HN.out HD.out L1.out (L2.out.dn (by omega))) ?_; clear E; rintro e wc E rfl; have q := E.cls; (repeat obtain ⟨_, _, q⟩ := q); clear q))
  refine bodyPost_ret (results_list (rs := [.tmp _, .tmp _]) rfl (by simp) (.tmp (.tmp .nil))) rfl ?_
  exact ⟨E.below, rfl⟩
end
theorem divInt_le (n d : Int) : (Rat.divInt n d).num.natAbs ≤ n.natAbs ∧ (Rat.divInt n d).den ≤ max d.natAbs 1 := by
 rw [Rat.num_divInt, Rat.den_divInt]
 constructor
 ·refine Nat.le_trans (Int.natAbs_ediv_le_natAbs _ _) ?_
  rw [Int.natAbs_mul]
  have h1 : d.sign.natAbs ≤ 1 := by
   rcases Int.lt_trichotomy d 0 with h | h | h
   ·rw [Int.sign_eq_neg_one_of_neg h]; decide
   ·rw [h]; decide
   ·rw [Int.sign_eq_one_of_pos h]; decide
  exact Nat.le_trans (Nat.mul_le_mul_right _ h1) (by omega)
 ·split
  ·omega
  ·exact Nat.le_trans (Nat.div_le_self _ _) (Nat.le_max_left _ _)
def Lnq (q : Rat) (k : Nat) : Prop := Ln q.num k ∧ Ln (q.den : Int) k
theorem lnq_div {n d : Int} {k : Nat} (hn : Ln n k) (hd : Ln d k) (hk : 1 ≤ k) : Lnq (Rat.divInt n d) k := by
 have h := divInt_le n d
 refine ⟨Nat.le_trans (len_mono h.1) hn, ?_⟩
 rcases (by omega : (Rat.divInt n d).den ≤ d.natAbs ∨ (Rat.divInt n d).den = 1) with h2 | h2
 ·exact Nat.le_trans (len_mono (by rw [Int.natAbs_natCast]; exact h2)) hd
 ·rw [h2]; exact ln_one.mono hk
theorem Lnq.mono {q : Rat} {a b : Nat} (h : Lnq q a) (hab : a ≤ b) : Lnq q b := ⟨h.1.mono hab, h.2.mono hab⟩
theorem dn_den (q : Rat) : dn (q.den : Int) = q.den := if_neg (by have := q.den_nz; omega)
theorem lnq_add {x y : Rat} {a b : Nat} (hx : Lnq x a) (hy : Lnq y b) : Lnq (x + y) (a + b + 1) := by
 have e : x + y = Rat.divInt (x.num * y.den + y.num * x.den) (x.den * y.den) := by
  have := rq_add x.num x.den y.num y.den
  rw [rq_self, rq_self, dn_den, dn_den] at this
  exact this.symm
 rw [e]
 exact lnq_div ((hx.1.mul hy.2).add ((hy.1.mul hx.2).mono (by omega))) ((hx.2.mul hy.2).mono (by omega)) (by omega)
theorem lnq_neg {x : Rat} {a : Nat} (hx : Lnq x a) : Lnq (-x) a := by
 unfold Lnq
 rw [Rat.neg_num, Rat.neg_den]
 exact ⟨hx.1.neg, hx.2⟩
theorem lnq_sub {x y : Rat} {a b : Nat} (hx : Lnq x a) (hy : Lnq y b) : Lnq (x - y) (a + b + 1) := by
 rw [Rat.sub_eq_add_neg]
 exact lnq_add hx (lnq_neg hy)
theorem ln_abs {z : Int} {k : Nat} (h : Ln z k) : Ln (z.natAbs : Int) k := Nat.le_trans (len_mono (by rw [Int.natAbs_natCast]; exact Nat.le_refl _)) h
theorem fl_floor (q : Rat) : q.num.fdiv (dn q.den) = q.floor := by
 rw [dn_den, Int.fdiv_eq_ediv_of_nonneg _ (by omega), Rat.floor]
 split
 next h => rw [h]; simp
 ·rfl
theorem ln_floor {q : Rat} {k : Nat} (h : Ln q.num k) : Ln (q.num.fdiv (dn q.den)) k := by
 refine Nat.le_trans (len_mono ?_) h
 rw [dn_den, Int.fdiv_eq_ediv_of_nonneg _ (by omega)]
 exact Int.natAbs_ediv_le_natAbs _ _
section
variable {W : World} {a b : ByteArray}
theorem rvalid_calls (W : World) (a : ByteArray) (hs : a.size ≤ 9000000000000) : Calls Tryz.prog 50 #[.string a] W fun e w' => Below W.heap.size W w' ∧ e = .returned (.bool ((rv a).elim false fun _ => true)) := by
 have E := Env.start W
 have HS := Aside0.mk hs
 cases h : rv a with
 |none =>
  have HR := Aside0.mk h
  clear h hs
  go_enter Tryz.func50, Tryz.ntmps50
  go_wp2_with (first | ((with_reducible first | refine gate_box (by rfl) ?_ | refine gate_alloc (by rfl) ?_); refine bx_ E ?_; clear E; intro gb wb E; have q := E.cls; (repeat obtain ⟨_, _, q⟩ := q); clear q) | (go_at_call 104; refine env_call E (rr_none _ HR.out HS.out) ?_; clear E; rintro e wc E ⟨zr, zr2, br, Ar, nr, cr, br2, Ar2, nr2, cr2, rfl, hw_, hw2_⟩; replace E := (E.wh hw_).wh hw2_; clear hw_ hw2_; have q := E.cls; (repeat obtain ⟨_, _, q⟩ := q); clear q) | ((with_reducible refine gate_stored (t := 77) (by rfl) ?_); refine st_ (fun ws hs_ => ?_); replace E := Env.pt2 hs_ E; clear hs_; have q := E.cls; (repeat obtain ⟨_, _, q⟩ := q); clear q) | ((with_reducible refine gate_stored (t := 84) (by rfl) ?_); refine st_ (fun ws hs_ => ?_); replace E := Env.pt4 hs_ E; clear hs_; have q := E.cls; (repeat obtain ⟨_, _, q⟩ := q); clear q))
  go_ret
  exact ⟨E.below, rfl⟩
 |some q =>
  have HR := Aside0.mk h
  have HL := Aside0.mk (rv_ln (rv_some h).2)
  clear h hs
  go_enter Tryz.func50, Tryz.ntmps50
  go_wp2_with (first | ((with_reducible first | refine gate_box (by rfl) ?_ | refine gate_alloc (by rfl) ?_); refine bx_ E ?_; clear E; intro gb wb E; have q := E.cls; (repeat obtain ⟨_, _, q⟩ := q); clear q) | (go_at_call 104; refine env_call E (rr_some _ HR.out HS.out) ?_; clear E; rintro e wc E ⟨br, Ar, nr, cr, br2, Ar2, nr2, cr2, rfl, hw_, hw2_⟩; replace E := (E.wh hw_).wh hw2_; clear hw_ hw2_; have q := E.cls; (repeat obtain ⟨_, _, q⟩ := q); clear q) | ((with_reducible refine gate_stored (t := 77) (by rfl) ?_); refine st_ (fun ws hs_ => ?_); replace E := Env.pt2 hs_ E; clear hs_; have q := E.cls; (repeat obtain ⟨_, _, q⟩ := q); clear q) | ((with_reducible refine gate_stored (t := 84) (by rfl) ?_); refine st_ (fun ws hs_ => ?_); replace E := Env.pt4 hs_ E; clear hs_; have q := E.cls; (repeat obtain ⟨_, _, q⟩ := q); clear q))
  go_ret
  exact ⟨E.below, rfl⟩
theorem rfloor_calls (W : World) (a : ByteArray) (hs : a.size ≤ 9000000000000) : Calls Tryz.prog 36 #[.string a] W fun e w' => Below W.heap.size W w' ∧ e = .returned (.tuple ((rv a).elim #[.string ⟨#[]⟩, .int .i64 1] fun q => #[.string (TX q.floor), .int .i64 0])) := by
 have E := Env.start W
 have HS := Aside0.mk hs
 cases h : rv a with
 |none =>
  have HR := Aside0.mk h
  clear h hs
  go_enter Tryz.func36, Tryz.ntmps36
  go_wp2_with (first | ((with_reducible first | refine gate_box (by rfl) ?_ | refine gate_alloc (by rfl) ?_); refine bx_ E ?_; clear E; intro gb wb E; have q := E.cls; (repeat obtain ⟨_, _, q⟩ := q); clear q) | (go_at_call 104; refine env_call E (rr_none _ HR.out HS.out) ?_; clear E; rintro e wc E ⟨zr, zr2, br, Ar, nr, cr, br2, Ar2, nr2, cr2, rfl, hw_, hw2_⟩; replace E := (E.wh hw_).wh hw2_; clear hw_ hw2_; have q := E.cls; (repeat obtain ⟨_, _, q⟩ := q); clear q) | ((with_reducible refine gate_stored (t := 77) (by rfl) ?_); refine st_ (fun ws hs_ => ?_); replace E := Env.pt2 hs_ E; clear hs_; have q := E.cls; (repeat obtain ⟨_, _, q⟩ := q); clear q) | ((with_reducible refine gate_stored (t := 84) (by rfl) ?_); refine st_ (fun ws hs_ => ?_); replace E := Env.pt4 hs_ E; clear hs_; have q := E.cls; (repeat obtain ⟨_, _, q⟩ := q); clear q))
  refine bodyPost_ret (results_list (rs := [.tmp _, .tmp _]) rfl (by simp) (.tmp (.tmp .nil))) rfl ?_
  exact ⟨E.below, rfl⟩
 |some q =>
  have HR := Aside0.mk h
  have HL := Aside0.mk (rv_ln (rv_some h).2)
  clear h hs
  go_enter Tryz.func36, Tryz.ntmps36
  go_wp2_with (first | ((with_reducible first | refine gate_box (by rfl) ?_ | refine gate_alloc (by rfl) ?_); refine bx_ E ?_; clear E; intro gb wb E; have q := E.cls; (repeat obtain ⟨_, _, q⟩ := q); clear q) | (go_at_call 104; refine env_call E (rr_some _ HR.out HS.out) ?_; clear E; rintro e wc E ⟨br, Ar, nr, cr, br2, Ar2, nr2, cr2, rfl, hw_, hw2_⟩; replace E := (E.wh hw_).wh hw2_; clear hw_ hw2_; have q := E.cls; (repeat obtain ⟨_, _, q⟩ := q); clear q) | ((with_reducible refine gate_stored (t := 77) (by rfl) ?_); refine st_ (fun ws hs_ => ?_); replace E := Env.pt2 hs_ E; clear hs_; have q := E.cls; (repeat obtain ⟨_, _, q⟩ := q); clear q) | ((with_reducible refine gate_stored (t := 84) (by rfl) ?_); refine st_ (fun ws hs_ => ?_); replace E := Env.pt4 hs_ E; clear hs_; have q := E.cls; (repeat obtain ⟨_, _, q⟩ := q); clear q) | (go_at_call 124; refine env_call E (floor_calls E.getW E.getW (HL.out.1.fits (by omega)) ((HL.out.2.dn (by omega)).fits (by omega))) ?_; clear E; rintro e wc E ⟨br, Ar, nr, cr, rfl, hw_⟩; replace E := E.wh hw_; clear hw_; have q := E.cls; (repeat obtain ⟨_, _, q⟩ := q); clear q) | (go_at_call 114; refine env_call E (text_calls E.getW ((ln_floor HL.out.1).mono (by omega))) ?_; clear E; rintro e wc E rfl; have q := E.cls; (repeat obtain ⟨_, _, q⟩ := q); clear q))
  refine bodyPost_ret (results_list (rs := [.tmp _, .tmp _]) rfl (by simp) (.tmp (.tmp .nil))) rfl ?_
  exact ⟨E.below, by rw [fl_floor]; rfl⟩
def RPP (x y : Rat) (e : Ending) (w' : World) : Prop := ∃ b1 A1 x1 c1 b2 A2 x2 c2 b3 A3 x3 c3 b4 A4 x4 c4, e = .returned (.tuple #[.agg #[.bool b1, .slice A1 x1 c1, .bool b2, .slice A2 x2 c2], .agg #[.bool b3, .slice A3 x3 c3, .bool b4, .slice A4 x4 c4], .int .i64 0]) ∧ Wh w' b1 (.slice A1 x1 c1) x.num ∧ Wh w' b2 (.slice A2 x2 c2) x.den ∧ Wh w' b3 (.slice A3 x3 c3) y.num ∧ Wh w' b4 (.slice A4 x4 c4) y.den
def RPPz (e : Ending) (w' : World) : Prop := ∃ z1 z2 z3 z4 b1 A1 x1 c1 b2 A2 x2 c2 b3 A3 x3 c3 b4 A4 x4 c4, e = .returned (.tuple #[.agg #[.bool b1, .slice A1 x1 c1, .bool b2, .slice A2 x2 c2], .agg #[.bool b3, .slice A3 x3 c3, .bool b4, .slice A4 x4 c4], .int .i64 1]) ∧ Wh w' b1 (.slice A1 x1 c1) z1 ∧ Wh w' b2 (.slice A2 x2 c2) z2 ∧ Wh w' b3 (.slice A3 x3 c3) z3 ∧ Wh w' b4 (.slice A4 x4 c4) z4
theorem pair_ss (W : World) {a b : ByteArray} {x : Rat} {y : Rat} (ha : rv a = some x) (hb : rv b = some y) (hsa : a.size ≤ 9000000000000) (hsb : b.size ≤ 9000000000000) : Calls Tryz.prog 100 #[.string a, .string b] W fun e w' => Below W.heap.size W w' ∧ RPP x y e w' := by
 have E := Env.start W
 have HA := Aside0.mk ha
 have HB := Aside0.mk hb
 have HSA := Aside0.mk hsa
 have HSB := Aside0.mk hsb
 clear ha hb hsa hsb
 go_enter Tryz.func100, Tryz.ntmps100
 go_wp2_with (first | ((with_reducible first | refine gate_box (by rfl) ?_ | refine gate_alloc (by rfl) ?_); refine bx_ E ?_; clear E; intro gb wb E; have q := E.cls; (repeat obtain ⟨_, _, q⟩ := q); clear q) | (go_at_call 104; refine env_call E (rr_some _ HA.out HSA.out) ?_; clear E; rintro e wc E ⟨br, Ar, nr, cr, br2, Ar2, nr2, cr2, rfl, hw_, hw2_⟩; replace E := (E.wh hw_).wh hw2_; clear hw_ hw2_; have q := E.cls; (repeat obtain ⟨_, _, q⟩ := q); clear q) | (go_at_call 104; refine env_call E (rr_some _ HB.out HSB.out) ?_; clear E; rintro e wc E ⟨br, Ar, nr, cr, br2, Ar2, nr2, cr2, rfl, hw_, hw2_⟩; replace E := (E.wh hw_).wh hw2_; clear hw_ hw2_; have q := E.cls; (repeat obtain ⟨_, _, q⟩ := q); clear q) | ((with_reducible refine gate_stored (t := 77) (by rfl) ?_); refine st_ (fun ws hs_ => ?_); replace E := Env.pt2 hs_ E; clear hs_; have q := E.cls; (repeat obtain ⟨_, _, q⟩ := q); clear q) | ((with_reducible refine gate_stored (t := 84) (by rfl) ?_); refine st_ (fun ws hs_ => ?_); replace E := Env.pt4 hs_ E; clear hs_; have q := E.cls; (repeat obtain ⟨_, _, q⟩ := q); clear q) | (refine start_ (id := 5) (n := 5) (S := fun w' => Cls w' _) (ds := []) (bz 5 0) (by kernel_rfl) rfl rfl E.draw.cls (fun hH => ?_); replace E := E.draw; refine ta_ 0 (some 27) (bz 5 1) hH ?_; refine ta_ 1 (some 28) (bz 5 3) hH ?_; refine on_ 2 (none) (bz 5 7) (fun K hK => ?_); have q := E.cls; (repeat obtain ⟨_, _, q⟩ := q); clear q; refine sk_ (fun ws hs_ => ?_); replace E := Env.pt4 hs_ E; clear hs_; refine hK.out _ _ E.cls (fun hH => ?_); clear hK K; have q := E.cls; (repeat obtain ⟨_, _, q⟩ := q); clear q; refine on_ 3 (none) (bz 5 15) (fun K hK => ?_); have q := E.cls; (repeat obtain ⟨_, _, q⟩ := q); clear q; refine sk_ (fun ws hs_ => ?_); replace E := Env.pt4 hs_ E; clear hs_; refine hK.out _ _ E.cls (fun hH => ?_); clear hK K; have q := E.cls; (repeat obtain ⟨_, _, q⟩ := q); clear q; refine pu_ 4 (some 6) (bz 5 31) ?_; refine done_ (by kernel_rfl) ?_; all_goals (have q := E.cls; (repeat obtain ⟨_, _, q⟩ := q); clear q)))
 refine bodyPost_ret (results_list (rs := [.cell _ 84, .cell _ 84, .tmp _]) rfl (by simp) (.cell _ _ _ (0, 0) _ rfl E.blk Tryz.underlying84 rfl (by kernel_rfl) (.cell _ _ _ (0, 0) _ rfl E.blk Tryz.underlying84 rfl (by kernel_rfl) (.tmp .nil)))) rfl ?_
 exact ⟨E.below, _, _, _, _, _, _, _, _, _, _, _, _, _, _, _, _, rfl, E.getW, E.getW, E.getW, E.getW⟩
theorem pair_sn (W : World) {a b : ByteArray} {x : Rat} (ha : rv a = some x) (hb : rv b = none) (hsa : a.size ≤ 9000000000000) (hsb : b.size ≤ 9000000000000) : Calls Tryz.prog 100 #[.string a, .string b] W fun e w' => Below W.heap.size W w' ∧ RPPz e w' := by
 have E := Env.start W
 have HA := Aside0.mk ha
 have HB := Aside0.mk hb
 have HSA := Aside0.mk hsa
 have HSB := Aside0.mk hsb
 clear ha hb hsa hsb
 go_enter Tryz.func100, Tryz.ntmps100
 go_wp2_with (first | ((with_reducible first | refine gate_box (by rfl) ?_ | refine gate_alloc (by rfl) ?_); refine bx_ E ?_; clear E; intro gb wb E; have q := E.cls; (repeat obtain ⟨_, _, q⟩ := q); clear q) | (go_at_call 104; refine env_call E (rr_some _ HA.out HSA.out) ?_; clear E; rintro e wc E ⟨br, Ar, nr, cr, br2, Ar2, nr2, cr2, rfl, hw_, hw2_⟩; replace E := (E.wh hw_).wh hw2_; clear hw_ hw2_; have q := E.cls; (repeat obtain ⟨_, _, q⟩ := q); clear q) | (go_at_call 104; refine env_call E (rr_none _ HB.out HSB.out) ?_; clear E; rintro e wc E ⟨zr, zr2, br, Ar, nr, cr, br2, Ar2, nr2, cr2, rfl, hw_, hw2_⟩; replace E := (E.wh hw_).wh hw2_; clear hw_ hw2_; have q := E.cls; (repeat obtain ⟨_, _, q⟩ := q); clear q) | ((with_reducible refine gate_stored (t := 77) (by rfl) ?_); refine st_ (fun ws hs_ => ?_); replace E := Env.pt2 hs_ E; clear hs_; have q := E.cls; (repeat obtain ⟨_, _, q⟩ := q); clear q) | ((with_reducible refine gate_stored (t := 84) (by rfl) ?_); refine st_ (fun ws hs_ => ?_); replace E := Env.pt4 hs_ E; clear hs_; have q := E.cls; (repeat obtain ⟨_, _, q⟩ := q); clear q) | (refine start_ (id := 4) (n := 5) (S := fun w' => Cls w' _) (ds := []) (bz 5 0) (by kernel_rfl) rfl rfl E.draw.cls (fun hH => ?_); replace E := E.draw; refine ta_ 0 (some 25) (bz 5 1) hH ?_; refine ta_ 1 (some 26) (bz 5 3) hH ?_; refine on_ 2 (none) (bz 5 7) (fun K hK => ?_); have q := E.cls; (repeat obtain ⟨_, _, q⟩ := q); clear q; refine sk_ (fun ws hs_ => ?_); replace E := Env.pt4 hs_ E; clear hs_; refine hK.out _ _ E.cls (fun hH => ?_); clear hK K; have q := E.cls; (repeat obtain ⟨_, _, q⟩ := q); clear q; refine on_ 3 (none) (bz 5 15) (fun K hK => ?_); have q := E.cls; (repeat obtain ⟨_, _, q⟩ := q); clear q; refine sk_ (fun ws hs_ => ?_); replace E := Env.pt4 hs_ E; clear hs_; refine hK.out _ _ E.cls (fun hH => ?_); clear hK K; have q := E.cls; (repeat obtain ⟨_, _, q⟩ := q); clear q; refine pu_ 4 (some 6) (bz 5 31) ?_; refine done_ (by kernel_rfl) ?_; all_goals (have q := E.cls; (repeat obtain ⟨_, _, q⟩ := q); clear q)))
 refine bodyPost_ret (results_list (rs := [.cell _ 84, .cell _ 84, .tmp _]) rfl (by simp) (.cell _ _ _ (0, 0) _ rfl E.blk Tryz.underlying84 rfl (by kernel_rfl) (.cell _ _ _ (0, 0) _ rfl E.blk Tryz.underlying84 rfl (by kernel_rfl) (.tmp .nil)))) rfl ?_
 exact ⟨E.below, _, _, _, _, _, _, _, _, _, _, _, _, _, _, _, _, _, _, _, _, rfl, E.getW, E.getW, E.getW, E.getW⟩
theorem pair_ns (W : World) {a b : ByteArray} {y : Rat} (ha : rv a = none) (hb : rv b = some y) (hsa : a.size ≤ 9000000000000) (hsb : b.size ≤ 9000000000000) : Calls Tryz.prog 100 #[.string a, .string b] W fun e w' => Below W.heap.size W w' ∧ RPPz e w' := by
 have E := Env.start W
 have HA := Aside0.mk ha
 have HB := Aside0.mk hb
 have HSA := Aside0.mk hsa
 have HSB := Aside0.mk hsb
 clear ha hb hsa hsb
 go_enter Tryz.func100, Tryz.ntmps100
 go_wp2_with (first | ((with_reducible first | refine gate_box (by rfl) ?_ | refine gate_alloc (by rfl) ?_); refine bx_ E ?_; clear E; intro gb wb E; have q := E.cls; (repeat obtain ⟨_, _, q⟩ := q); clear q) | (go_at_call 104; refine env_call E (rr_none _ HA.out HSA.out) ?_; clear E; rintro e wc E ⟨zr, zr2, br, Ar, nr, cr, br2, Ar2, nr2, cr2, rfl, hw_, hw2_⟩; replace E := (E.wh hw_).wh hw2_; clear hw_ hw2_; have q := E.cls; (repeat obtain ⟨_, _, q⟩ := q); clear q) | (go_at_call 104; refine env_call E (rr_some _ HB.out HSB.out) ?_; clear E; rintro e wc E ⟨br, Ar, nr, cr, br2, Ar2, nr2, cr2, rfl, hw_, hw2_⟩; replace E := (E.wh hw_).wh hw2_; clear hw_ hw2_; have q := E.cls; (repeat obtain ⟨_, _, q⟩ := q); clear q) | ((with_reducible refine gate_stored (t := 77) (by rfl) ?_); refine st_ (fun ws hs_ => ?_); replace E := Env.pt2 hs_ E; clear hs_; have q := E.cls; (repeat obtain ⟨_, _, q⟩ := q); clear q) | ((with_reducible refine gate_stored (t := 84) (by rfl) ?_); refine st_ (fun ws hs_ => ?_); replace E := Env.pt4 hs_ E; clear hs_; have q := E.cls; (repeat obtain ⟨_, _, q⟩ := q); clear q) | (refine start_ (id := 4) (n := 5) (S := fun w' => Cls w' _) (ds := []) (bz 5 0) (by kernel_rfl) rfl rfl E.draw.cls (fun hH => ?_); replace E := E.draw; refine ta_ 0 (some 25) (bz 5 1) hH ?_; refine ta_ 1 (some 26) (bz 5 3) hH ?_; refine on_ 2 (none) (bz 5 7) (fun K hK => ?_); have q := E.cls; (repeat obtain ⟨_, _, q⟩ := q); clear q; refine sk_ (fun ws hs_ => ?_); replace E := Env.pt4 hs_ E; clear hs_; refine hK.out _ _ E.cls (fun hH => ?_); clear hK K; have q := E.cls; (repeat obtain ⟨_, _, q⟩ := q); clear q; refine on_ 3 (none) (bz 5 15) (fun K hK => ?_); have q := E.cls; (repeat obtain ⟨_, _, q⟩ := q); clear q; refine sk_ (fun ws hs_ => ?_); replace E := Env.pt4 hs_ E; clear hs_; refine hK.out _ _ E.cls (fun hH => ?_); clear hK K; have q := E.cls; (repeat obtain ⟨_, _, q⟩ := q); clear q; refine pu_ 4 (some 6) (bz 5 31) ?_; refine done_ (by kernel_rfl) ?_; all_goals (have q := E.cls; (repeat obtain ⟨_, _, q⟩ := q); clear q)))
 refine bodyPost_ret (results_list (rs := [.cell _ 84, .cell _ 84, .tmp _]) rfl (by simp) (.cell _ _ _ (0, 0) _ rfl E.blk Tryz.underlying84 rfl (by kernel_rfl) (.cell _ _ _ (0, 0) _ rfl E.blk Tryz.underlying84 rfl (by kernel_rfl) (.tmp .nil)))) rfl ?_
 exact ⟨E.below, _, _, _, _, _, _, _, _, _, _, _, _, _, _, _, _, _, _, _, _, rfl, E.getW, E.getW, E.getW, E.getW⟩
theorem pair_nn (W : World) {a b : ByteArray} (ha : rv a = none) (hb : rv b = none) (hsa : a.size ≤ 9000000000000) (hsb : b.size ≤ 9000000000000) : Calls Tryz.prog 100 #[.string a, .string b] W fun e w' => Below W.heap.size W w' ∧ RPPz e w' := by
 have E := Env.start W
 have HA := Aside0.mk ha
 have HB := Aside0.mk hb
 have HSA := Aside0.mk hsa
 have HSB := Aside0.mk hsb
 clear ha hb hsa hsb
 go_enter Tryz.func100, Tryz.ntmps100
 go_wp2_with (first | ((with_reducible first | refine gate_box (by rfl) ?_ | refine gate_alloc (by rfl) ?_); refine bx_ E ?_; clear E; intro gb wb E; have q := E.cls; (repeat obtain ⟨_, _, q⟩ := q); clear q) | (go_at_call 104; refine env_call E (rr_none _ HA.out HSA.out) ?_; clear E; rintro e wc E ⟨zr, zr2, br, Ar, nr, cr, br2, Ar2, nr2, cr2, rfl, hw_, hw2_⟩; replace E := (E.wh hw_).wh hw2_; clear hw_ hw2_; have q := E.cls; (repeat obtain ⟨_, _, q⟩ := q); clear q) | (go_at_call 104; refine env_call E (rr_none _ HB.out HSB.out) ?_; clear E; rintro e wc E ⟨zr, zr2, br, Ar, nr, cr, br2, Ar2, nr2, cr2, rfl, hw_, hw2_⟩; replace E := (E.wh hw_).wh hw2_; clear hw_ hw2_; have q := E.cls; (repeat obtain ⟨_, _, q⟩ := q); clear q) | ((with_reducible refine gate_stored (t := 77) (by rfl) ?_); refine st_ (fun ws hs_ => ?_); replace E := Env.pt2 hs_ E; clear hs_; have q := E.cls; (repeat obtain ⟨_, _, q⟩ := q); clear q) | ((with_reducible refine gate_stored (t := 84) (by rfl) ?_); refine st_ (fun ws hs_ => ?_); replace E := Env.pt4 hs_ E; clear hs_; have q := E.cls; (repeat obtain ⟨_, _, q⟩ := q); clear q) | (refine start_ (id := 4) (n := 5) (S := fun w' => Cls w' _) (ds := []) (bz 5 0) (by kernel_rfl) rfl rfl E.draw.cls (fun hH => ?_); replace E := E.draw; refine ta_ 0 (some 25) (bz 5 1) hH ?_; refine ta_ 1 (some 26) (bz 5 3) hH ?_; refine on_ 2 (none) (bz 5 7) (fun K hK => ?_); have q := E.cls; (repeat obtain ⟨_, _, q⟩ := q); clear q; refine sk_ (fun ws hs_ => ?_); replace E := Env.pt4 hs_ E; clear hs_; refine hK.out _ _ E.cls (fun hH => ?_); clear hK K; have q := E.cls; (repeat obtain ⟨_, _, q⟩ := q); clear q; refine on_ 3 (none) (bz 5 15) (fun K hK => ?_); have q := E.cls; (repeat obtain ⟨_, _, q⟩ := q); clear q; refine sk_ (fun ws hs_ => ?_); replace E := Env.pt4 hs_ E; clear hs_; refine hK.out _ _ E.cls (fun hH => ?_); clear hK K; have q := E.cls; (repeat obtain ⟨_, _, q⟩ := q); clear q; refine pu_ 4 (some 6) (bz 5 31) ?_; refine done_ (by kernel_rfl) ?_; all_goals (have q := E.cls; (repeat obtain ⟨_, _, q⟩ := q); clear q)))
 refine bodyPost_ret (results_list (rs := [.cell _ 84, .cell _ 84, .tmp _]) rfl (by simp) (.cell _ _ _ (0, 0) _ rfl E.blk Tryz.underlying84 rfl (by kernel_rfl) (.cell _ _ _ (0, 0) _ rfl E.blk Tryz.underlying84 rfl (by kernel_rfl) (.tmp .nil)))) rfl ?_
 exact ⟨E.below, _, _, _, _, _, _, _, _, _, _, _, _, _, _, _, _, _, _, _, _, rfl, E.getW, E.getW, E.getW, E.getW⟩
theorem pair_none (W : World) {a b : ByteArray} (h : rv a = none ∨ rv b = none) (hsa : a.size ≤ 9000000000000) (hsb : b.size ≤ 9000000000000) : Calls Tryz.prog 100 #[.string a, .string b] W fun e w' => Below W.heap.size W w' ∧ RPPz e w' := by
 cases ha : rv a with
 |none =>
  cases hb : rv b with
  |none => exact pair_nn W ha hb hsa hsb
  |some y => exact pair_ns W ha hb hsa hsb
 |some x => exact pair_sn W ha (h.resolve_left (by rw [ha]; simp)) hsa hsb
def two (a b : ByteArray) (f : Rat → Rat → ByteArray × Int) : ByteArray × Int := match rv a, rv b with
 |some x, some y => f x y
 |_, _ => (⟨#[]⟩, 1)
def res (q : Rat) : ByteArray × Int := (resA q, resE q)
theorem two_none {a b : ByteArray} {f : Rat → Rat → ByteArray × Int} (h : rv a = none ∨ rv b = none) : two a b f = (⟨#[]⟩, 1) := by
 unfold two
 rcases h with h | h
 ·rw [h]
 ·rw [h]; cases rv a <;> rfl
theorem two_some {a b : ByteArray} {f : Rat → Rat → ByteArray × Int} {x y : Rat} (ha : rv a = some x) (hb : rv b = some y) : two a b f = f x y := by
 unfold two
 rw [ha, hb]
theorem rv_lnq {a : ByteArray} {x : Rat} (h : rv a = some x) : Lnq x 112 := rv_ln (rv_some h).2
theorem radde_calls (W : World) (a b : ByteArray) (hsa : a.size ≤ 9000000000000) (hsb : b.size ≤ 9000000000000) : Calls Tryz.prog 66 #[.string a, .string b] W fun e w' => Below W.heap.size W w' ∧ e = .returned (.tuple #[.string (two a b (fun x y => res (x + y))).1, .int .i64 (two a b (fun x y => res (x + y))).2]) := by
 have E := Env.start W
 have HSA := Aside0.mk hsa
 have HSB := Aside0.mk hsb
 by_cases h : rv a = none ∨ rv b = none
 ·rw [two_none h]
  have HN := Aside0.mk h
  clear h hsa hsb
  go_enter Tryz.func66, Tryz.ntmps66
  go_wp2_with (first | ((with_reducible first | refine gate_box (by rfl) ?_ | refine gate_alloc (by rfl) ?_); refine bx_ E ?_; clear E; intro gb wb E; have q := E.cls; (repeat obtain ⟨_, _, q⟩ := q); clear q) | (go_at_call 100; refine env_call E (pair_none _ HN.out HSA.out HSB.out) ?_; clear E; rintro e wc E ⟨zr, zr2, zr3, zr4, br, Ar, nr, cr, br2, Ar2, nr2, cr2, br3, Ar3, nr3, cr3, br4, Ar4, nr4, cr4, rfl, hw_, hw2_, hw3_, hw4_⟩; replace E := (((E.wh hw_).wh hw2_).wh hw3_).wh hw4_; clear hw_ hw2_ hw3_ hw4_; have q := E.cls; (repeat obtain ⟨_, _, q⟩ := q); clear q) | ((with_reducible refine gate_stored (t := 77) (by rfl) ?_); refine st_ (fun ws hs_ => ?_); replace E := Env.pt2 hs_ E; clear hs_; have q := E.cls; (repeat obtain ⟨_, _, q⟩ := q); clear q) | ((with_reducible refine gate_stored (t := 84) (by rfl) ?_); refine st_ (fun ws hs_ => ?_); replace E := Env.pt4 hs_ E; clear hs_; have q := E.cls; (repeat obtain ⟨_, _, q⟩ := q); clear q))
  refine bodyPost_ret (results_list (rs := [.tmp _, .tmp _]) rfl (by simp) (.tmp (.tmp .nil))) rfl ?_
  exact ⟨E.below, rfl⟩
 ·obtain ⟨x, ha⟩ : ∃ x, rv a = some x := Option.ne_none_iff_exists'.1 (fun e => h (.inl e))
  obtain ⟨y, hb⟩ : ∃ y, rv b = some y := Option.ne_none_iff_exists'.1 (fun e => h (.inr e))
  rw [two_some ha hb]
  have HA := Aside0.mk ha
  have HB := Aside0.mk hb
  have HX := Aside0.mk (rv_lnq ha)
  have HY := Aside0.mk (rv_lnq hb)
  clear h ha hb hsa hsb
  go_enter Tryz.func66, Tryz.ntmps66
  go_wp2_with (first | ((with_reducible first | refine gate_box (by rfl) ?_ | refine gate_alloc (by rfl) ?_); refine bx_ E ?_; clear E; intro gb wb E; have q := E.cls; (repeat obtain ⟨_, _, q⟩ := q); clear q) | (go_at_call 100; refine env_call E (pair_ss _ HA.out HB.out HSA.out HSB.out) ?_; clear E; rintro e wc E ⟨br, Ar, nr, cr, br2, Ar2, nr2, cr2, br3, Ar3, nr3, cr3, br4, Ar4, nr4, cr4, rfl, hw_, hw2_, hw3_, hw4_⟩; replace E := (((E.wh hw_).wh hw2_).wh hw3_).wh hw4_; clear hw_ hw2_ hw3_ hw4_; have q := E.cls; (repeat obtain ⟨_, _, q⟩ := q); clear q) | ((with_reducible refine gate_stored (t := 77) (by rfl) ?_); refine st_ (fun ws hs_ => ?_); replace E := Env.pt2 hs_ E; clear hs_; have q := E.cls; (repeat obtain ⟨_, _, q⟩ := q); clear q) | ((with_reducible refine gate_stored (t := 84) (by rfl) ?_); refine st_ (fun ws hs_ => ?_); replace E := Env.pt4 hs_ E; clear hs_; have q := E.cls; (repeat obtain ⟨_, _, q⟩ := q); clear q) | (go_at_call 115; refine env_call E (radd_calls E.getW E.getW E.getW E.getW HX.out.1 (HX.out.2) (HY.out.1) (HY.out.2) (by omega) (by omega)) ?_; clear E; rintro e wc E ⟨br, Ar, nr, cr, br2, Ar2, nr2, cr2, rfl, hw_, hw2_⟩; replace E := (E.wh hw_).wh hw2_; clear hw_ hw2_; have q := E.cls; (repeat obtain ⟨_, _, q⟩ := q); clear q) | (go_at_call 87; refine env_call E (result_calls (q := x + y) E.getW E.getW (by simp only [rq_self]) (by simp only [rq_self, dn_den]) ((by simpa only [rq_self] using (lnq_add HX.out HY.out).1.mono (by omega)) : Ln _ 1000000000000) ((by simpa only [rq_self] using (lnq_add HX.out HY.out).2.mono (by omega)) : Ln _ 1000000000000)) ?_; clear E; rintro e wc E rfl; have q := E.cls; (repeat obtain ⟨_, _, q⟩ := q); clear q))
  refine bodyPost_ret (results_list (rs := [.tmp _, .tmp _]) rfl (by simp) (.tmp (.tmp .nil))) rfl ?_
  exact ⟨E.below, rfl⟩
end
def RTL (ls : List ByteArray) (e : Ending) (w' : World) : Prop := ∃ A c, e = .returned (.tuple #[.slice A ls.length c, .int .i64 0]) ∧ Kd.C Kd.string w' A ls.length ls
def Two (w W : World) (rows : List (World → Prop)) (x y : Nat × List Value × Nat) (bo : List (Nat × List Value × Nat)) : Prop := Env w W rows (x :: y :: bo) ∨ Env w W rows (y :: x :: bo)
def TwoRel (w W : World) (v v' : Value) (n d : Int) (bo : List (Nat × List Value × Nat)) : Prop := ∃ (g g' : Nat) (b : Bool) (A : Option Addr) (x c : Nat) (b' : Bool) (A' : Option Addr) (x' c' : Nat), v = .pointer (some ⟨g, 0, none⟩) ∧ v' = .pointer (some ⟨g', 0, none⟩) ∧
 Aside0 (Two w W [(fun w => Wh w b (.slice A x c) n), (fun w => Wh w b' (.slice A' x' c') d)] (g', [.bool b', .slice A' x' c'], 77) (g, [.bool b, .slice A x c], 77) bo)
section
variable {w W : World} {rows : List (World → Prop)} {bx bo : List (Nat × List Value × Nat)} {g g' : Nat} {b b' : Bool} {A A' : Option Addr} {x c x' c' : Nat} {n d : Int}
theorem TwoRel.mk1 (E : Env w W rows bx) (hb : ((g', [.bool b', .slice A' x' c'], 77) :: (g, [.bool b, .slice A x c], 77) :: bo).Sublist bx) (h1 : (fun w => Wh w b (.slice A x c) n) ∈ rows) (h2 : (fun w => Wh w b' (.slice A' x' c') d) ∈ rows) :
  TwoRel w W (.pointer (some ⟨g, 0, none⟩)) (.pointer (some ⟨g', 0, none⟩)) n d bo := ⟨g, g', b, A, x, c, b', A', x', c', rfl, rfl, ⟨.inl (E.sub (in2 h1 h2) hb)⟩⟩
theorem TwoRel.mk2 (E : Env w W rows bx) (hb : ((g, [.bool b, .slice A x c], 77) :: (g', [.bool b', .slice A' x' c'], 77) :: bo).Sublist bx) (h1 : (fun w => Wh w b (.slice A x c) n) ∈ rows) (h2 : (fun w => Wh w b' (.slice A' x' c') d) ∈ rows) :
  TwoRel w W (.pointer (some ⟨g, 0, none⟩)) (.pointer (some ⟨g', 0, none⟩)) n d bo := ⟨g, g', b, A, x, c, b', A', x', c', rfl, rfl, ⟨.inr (E.sub (in2 h1 h2) hb)⟩⟩
end
def XpInv (q : Rat) (n d : Int) (l : List Int) (kq : Nat) : Prop := l ++ cf n d = cf q.num q.den ∧ 0 ≤ d ∧ Ln n 112 ∧ Ln d 112 ∧ l.length < 1000000 ∧ kq = d.toNat + 1
theorem ln_le {x y : Int} {k : Nat} (h : x.natAbs ≤ y.natAbs) (hy : Ln y k) : Ln x k := Nat.le_trans (len_mono h) hy
theorem cast_pow {a k : Nat} (h : a < 10 ^ k) : (a : Int) < 10 ^ k := by
 have := Int.ofNat_lt.2 h
 rwa [Int.natCast_pow] at this
theorem two_pow {d : Int} {k : Nat} (h0 : 0 < d) (h1 : d < 10 ^ k) : d * d < 2 ^ (8 * k) := by
 have h2 : d * d ≤ d * 10 ^ k := Int.mul_le_mul_of_nonneg_left (Int.le_of_lt h1) (Int.le_of_lt h0)
 have h3 : d * 10 ^ k < 10 ^ k * 10 ^ k := Int.mul_lt_mul_of_pos_right h1 (Int.pow_pos (by decide))
 have h4 : (10 : Int) ^ k ≤ 16 ^ k := by
  have : (10 : Nat) ^ k ≤ 16 ^ k := Nat.pow_le_pow_left (by decide) k
  have := Int.ofNat_le.2 this
  rwa [Int.natCast_pow, Int.natCast_pow] at this
 have h5 : (2 : Int) ^ (8 * k) = 16 ^ k * 16 ^ k := by rw [show 8 * k = 4 * k + 4 * k by omega, Int.pow_add, Int.pow_mul]; rfl
 rw [h5]
 exact Int.lt_of_le_of_lt h2 (Int.lt_of_lt_of_le h3 (Int.mul_le_mul h4 h4 (Int.pow_nonneg (by decide)) (Int.pow_nonneg (by decide))))
theorem cf_short_ {q : Rat} {k : Nat} (h : nd q.den ≤ k) : (cf q.num q.den).length ≤ 8 * k + 1 := by
 have h0 : (0 : Int) < q.den := Int.ofNat_lt.2 q.den_pos
 exact cf_length h0 (two_pow h0 (cast_pow ((nd_le k _).1 h)))
theorem cf_short {q : Rat} (h : lgq q = false) : (cf q.num q.den).length ≤ 8001 := by
 have h1 := (Bool.or_eq_false_iff.1 h).2
 have h2 : nd (q.den : Int).natAbs ≤ 1000 := by
  have := of_decide_eq_false h1
  omega
 rw [Int.natAbs_natCast] at h2
 exact cf_short_ h2
theorem XpInv.start {q : Rat} (h : lgq q = false) (h1 : Ln q.num 112) (h2 : Ln (q.den : Int) 112) : XpInv q q.num q.den [] ((q.den : Int).toNat + 1) := ⟨rfl, by omega, h1, h2, by decide, rfl⟩
theorem XpInv.next {q : Rat} {n d : Int} {l : List Int} {kq : Nat} (hq : lgq q = false) (h : XpInv q n d l kq) (hd : d ≠ 0) : XpInv q d (n.fmod d) (l ++ [n.fdiv d]) ((n.fmod d).toNat + 1) ∧ (n.fmod d).toNat + 1 < kq ∧ Ln (n.fdiv d) 112 ∧ l.length < 10000 := by
 obtain ⟨h1, h2, h3, h4, h5, h6⟩ := h
 have hp : 0 < d := by omega
 have hm := emod_less (n := n) hp
 rw [Int.fdiv_eq_ediv_of_nonneg n h2, Int.fmod_eq_emod_of_nonneg n h2]
 rw [cf_step hp] at h1
 have hl : l.length < 10000 := by
  have := congrArg List.length h1
  have h9 := cf_short hq
  rw [List.length_append, List.length_cons] at this
  omega
 refine ⟨⟨by rw [List.append_assoc, List.singleton_append]; exact h1, hm.1, h4, ln_le (by omega) h4, by rw [List.length_append, List.length_singleton]; omega, rfl⟩, by omega, ln_le (Int.natAbs_ediv_le_natAbs n d) h3, hl⟩
theorem XpInv.fin {q : Rat} {n : Int} {l : List Int} {kq : Nat} (h : XpInv q n 0 l kq) : l = cf q.num q.den := by
 have := h.1
 rwa [cf_zero, List.append_nil] at this
theorem expand_some (W : World) {s : ByteArray} {q : Rat} (h : rv s = some q) (hs : s.size ≤ 9000000000000) : Calls Tryz.prog 34 #[.string s] W fun e w' => Below W.heap.size W w' ∧ RTL ((cf q.num q.den).map TX) e w' := by
 have E := Env.start W
 have HS := Aside0.mk hs
 have HR := Aside0.mk h
 have hq : lgq q = false := (rv_some h).2
 have HQ := Aside0.mk hq
 have HL := Aside0.mk (rv_ln hq)
 clear hs h hq
 go_enter Tryz.func34, Tryz.ntmps34
 go_upto_region 5 with (first | ((with_reducible first | refine gate_box (by rfl) ?_ | refine gate_alloc (by rfl) ?_); refine bx_ E ?_; clear E; intro gb wb E; have q := E.cls; (repeat obtain ⟨_, _, q⟩ := q); clear q) | (go_at_call 104; refine env_call E (rr_some _ HR.out HS.out) ?_; clear E; rintro e wc E ⟨br, Ar, nr, cr, br2, Ar2, nr2, cr2, rfl, hw_, hw2_⟩; replace E := (E.wh hw_).wh hw2_; clear hw_ hw2_; have q := E.cls; (repeat obtain ⟨_, _, q⟩ := q); clear q) | ((with_reducible refine gate_stored (t := 77) (by rfl) ?_); refine st_ (fun ws hs_ => ?_); replace E := Env.pt2 hs_ E; clear hs_; have q := E.cls; (repeat obtain ⟨_, _, q⟩ := q); clear q) | ((with_reducible refine gate_stored (t := 84) (by rfl) ?_); refine st_ (fun ws hs_ => ?_); replace E := Env.pt4 hs_ E; clear hs_; have q := E.cls; (repeat obtain ⟨_, _, q⟩ := q); clear q))
 go_cut [7, 8] (fun v7 v8 wc => Aside0 (TwoRel W wc v7 v8 q.num q.den []))
 case first =>
  (refine start_ (id := 5) (n := 8) (S := fun w' => Cls w' _) (ds := [6, 7]) (bz 8 0) (by kernel_rfl) rfl rfl E.draw.cls (fun hH => ?_); replace E := E.draw; refine ta_ 0 (some 18) (bz 8 1) hH ?_; refine ta_ 2 (some 20) (bz 8 5) hH ?_; (repeat (any_goals (first | ((with_reducible refine at_ (bz 8 5) ?_); refine three_ (i := 1) (j := 4) (k := 5) (Ni := some 19) (Nj := some 7) (Nk := some 8) (bz 8 7) (bz 8 21) (bz 8 37) rfl rfl rfl rfl rfl rfl (by kernel_rfl) (by decide) (by decide) (by decide) (fun K hK => ?_) (fun K hK => ?_) (fun K hK => ?_); (focus (refine gs_ Tryz.func119 ?_; refine env_call E (num_calls E.getW E.getW) ?_; clear E; rintro e wc E ⟨br, Ar, nr, cr, rfl, hw_⟩; replace E := E.wh hw_; clear hw_; refine ⟨_, rfl, ?_⟩; refine hK.out _ _ E.cls (fun hH => ?_); clear hK K; refine nm_ (some 19) ?_)); rotate_left; (focus (refine value_env E (by rfl) rfl ?_; clear E; apply Exists.intro; apply Exists.intro; refine ⟨?_, ?_, fun gb wb E => ?_⟩; (· (first | rfl | (go_simp; done) | (go_simp; rfl))); (· rfl); refine hK.out _ _ (E.clsD 1) (fun hH => ?_); clear hK K; refine nm_ (some 7) ?_)); rotate_left; (focus (refine value_env E (by rfl) rfl ?_; clear E; apply Exists.intro; apply Exists.intro; refine ⟨?_, ?_, fun gb wb E => ?_⟩; (· (first | rfl | (go_simp; done) | (go_simp; rfl))); (· rfl); refine hK.out _ _ (E.clsD 1) (fun hH => ?_); clear hK K; refine nm_ (some 8) ?_)); rotate_left) | ((with_reducible refine at_ (bz 8 7) ?_); refine three_ (i := 3) (j := 4) (k := 5) (Ni := some 21) (Nj := some 7) (Nk := some 8) (bz 8 15) (bz 8 23) (bz 8 39) rfl rfl rfl rfl rfl rfl (by kernel_rfl) (by decide) (by decide) (by decide) (fun K hK => ?_) (fun K hK => ?_) (fun K hK => ?_); (focus (refine gs_ Tryz.func113 ?_; refine env_call E (den_calls E.getW E.getW) ?_; clear E; rintro e wc E ⟨br, Ar, nr, cr, rfl, hw_⟩; replace E := E.wh hw_; clear hw_; refine ⟨_, rfl, ?_⟩; refine hK.out _ _ E.cls (fun hH => ?_); clear hK K; refine nm_ (some 21) ?_)); rotate_left; (focus (refine value_env E (by rfl) rfl ?_; clear E; apply Exists.intro; apply Exists.intro; refine ⟨?_, ?_, fun gb wb E => ?_⟩; (· (first | rfl | (go_simp; done) | (go_simp; rfl))); (· rfl); refine hK.out _ _ (E.clsD 1) (fun hH => ?_); clear hK K; refine nm_ (some 7) ?_)); rotate_left; (focus (refine value_env E (by rfl) rfl ?_; clear E; apply Exists.intro; apply Exists.intro; refine ⟨?_, ?_, fun gb wb E => ?_⟩; (· (first | rfl | (go_simp; done) | (go_simp; rfl))); (· rfl); refine hK.out _ _ (E.clsD 1) (fun hH => ?_); clear hK K; refine nm_ (some 8) ?_)); rotate_left) | ((with_reducible refine at_ (bz 8 21) ?_); refine two_ (i := 1) (j := 5) (Ni := some 19) (Nj := some 8) (bz 8 23) (bz 8 53) rfl rfl rfl rfl (by kernel_rfl) (by decide) (by decide) (fun K hK => ?_) (fun K hK => ?_); (focus (refine gs_ Tryz.func119 ?_; refine env_call E (num_calls E.getW E.getW) ?_; clear E; rintro e wc E ⟨br, Ar, nr, cr, rfl, hw_⟩; replace E := E.wh hw_; clear hw_; refine ⟨_, rfl, ?_⟩; refine hK.out _ _ (E.clsD 1) (fun hH => ?_); clear hK K; refine nm_ (some 19) ?_)); rotate_left; (focus (refine value_env E (by rfl) rfl ?_; clear E; apply Exists.intro; apply Exists.intro; refine ⟨?_, ?_, fun gb wb E => ?_⟩; (· (first | rfl | (go_simp; done) | (go_simp; rfl))); (· rfl); refine hK.out _ _ (E.clsD 2) (fun hH => ?_); clear hK K; refine nm_ (some 8) ?_)); rotate_left) | ((with_reducible refine at_ (bz 8 37) ?_); refine two_ (i := 1) (j := 4) (Ni := some 19) (Nj := some 7) (bz 8 39) (bz 8 53) rfl rfl rfl rfl (by kernel_rfl) (by decide) (by decide) (fun K hK => ?_) (fun K hK => ?_); (focus (refine gs_ Tryz.func119 ?_; refine env_call E (num_calls E.getW E.getW) ?_; clear E; rintro e wc E ⟨br, Ar, nr, cr, rfl, hw_⟩; replace E := E.wh hw_; clear hw_; refine ⟨_, rfl, ?_⟩; refine hK.out _ _ (E.clsD 1) (fun hH => ?_); clear hK K; refine nm_ (some 19) ?_)); rotate_left; (focus (refine value_env E (by rfl) rfl ?_; clear E; apply Exists.intro; apply Exists.intro; refine ⟨?_, ?_, fun gb wb E => ?_⟩; (· (first | rfl | (go_simp; done) | (go_simp; rfl))); (· rfl); refine hK.out _ _ (E.clsD 2) (fun hH => ?_); clear hK K; refine nm_ (some 7) ?_)); rotate_left) | ((with_reducible refine at_ (bz 8 15) ?_); refine two_ (i := 4) (j := 5) (Ni := some 7) (Nj := some 8) (bz 8 31) (bz 8 47) rfl rfl rfl rfl (by kernel_rfl) (by decide) (by decide) (fun K hK => ?_) (fun K hK => ?_); (focus (refine value_env E (by rfl) rfl ?_; clear E; apply Exists.intro; apply Exists.intro; refine ⟨?_, ?_, fun gb wb E => ?_⟩; (· (first | rfl | (go_simp; done) | (go_simp; rfl))); (· rfl); refine hK.out _ _ (E.clsD 1) (fun hH => ?_); clear hK K; refine nm_ (some 7) ?_)); rotate_left; (focus (refine value_env E (by rfl) rfl ?_; clear E; apply Exists.intro; apply Exists.intro; refine ⟨?_, ?_, fun gb wb E => ?_⟩; (· (first | rfl | (go_simp; done) | (go_simp; rfl))); (· rfl); refine hK.out _ _ (E.clsD 1) (fun hH => ?_); clear hK K; refine nm_ (some 8) ?_)); rotate_left) | ((with_reducible refine at_ (bz 8 23) ?_); refine two_ (i := 3) (j := 5) (Ni := some 21) (Nj := some 8) (bz 8 31) (bz 8 55) rfl rfl rfl rfl (by kernel_rfl) (by decide) (by decide) (fun K hK => ?_) (fun K hK => ?_); (focus (refine gs_ Tryz.func113 ?_; refine env_call E (den_calls E.getW E.getW) ?_; clear E; rintro e wc E ⟨br, Ar, nr, cr, rfl, hw_⟩; replace E := E.wh hw_; clear hw_; refine ⟨_, rfl, ?_⟩; refine hK.out _ _ (E.clsD 1) (fun hH => ?_); clear hK K; refine nm_ (some 21) ?_)); rotate_left; (focus (refine value_env E (by rfl) rfl ?_; clear E; apply Exists.intro; apply Exists.intro; refine ⟨?_, ?_, fun gb wb E => ?_⟩; (· (first | rfl | (go_simp; done) | (go_simp; rfl))); (· rfl); refine hK.out _ _ (E.clsD 2) (fun hH => ?_); clear hK K; refine nm_ (some 8) ?_)); rotate_left) | ((with_reducible refine at_ (bz 8 39) ?_); refine two_ (i := 3) (j := 4) (Ni := some 21) (Nj := some 7) (bz 8 47) (bz 8 55) rfl rfl rfl rfl (by kernel_rfl) (by decide) (by decide) (fun K hK => ?_) (fun K hK => ?_); (focus (refine gs_ Tryz.func113 ?_; refine env_call E (den_calls E.getW E.getW) ?_; clear E; rintro e wc E ⟨br, Ar, nr, cr, rfl, hw_⟩; replace E := E.wh hw_; clear hw_; refine ⟨_, rfl, ?_⟩; refine hK.out _ _ (E.clsD 1) (fun hH => ?_); clear hK K; refine nm_ (some 21) ?_)); rotate_left; (focus (refine value_env E (by rfl) rfl ?_; clear E; apply Exists.intro; apply Exists.intro; refine ⟨?_, ?_, fun gb wb E => ?_⟩; (· (first | rfl | (go_simp; done) | (go_simp; rfl))); (· rfl); refine hK.out _ _ (E.clsD 2) (fun hH => ?_); clear hK K; refine nm_ (some 7) ?_)); rotate_left) | ((with_reducible refine at_ (bz 8 53) ?_); refine on_ 1 (some 19) (bz 8 55) (fun K hK => ?_); refine gs_ Tryz.func119 ?_; refine env_call E (num_calls E.getW E.getW) ?_; clear E; rintro e wc E ⟨br, Ar, nr, cr, rfl, hw_⟩; replace E := E.wh hw_; clear hw_; refine ⟨_, rfl, ?_⟩; refine hK.out _ _ (E.clsD 2) (fun hH => ?_); clear hK K; refine nm_ (some 19) ?_) | ((with_reducible refine at_ (bz 8 31) ?_); refine on_ 5 (some 8) (bz 8 63) (fun K hK => ?_); refine value_env E (by rfl) rfl ?_; clear E; apply Exists.intro; apply Exists.intro; refine ⟨?_, ?_, fun gb wb E => ?_⟩; (· (first | rfl | (go_simp; done) | (go_simp; rfl))); (· rfl); refine hK.out _ _ (E.clsD 2) (fun hH => ?_); clear hK K; refine nm_ (some 8) ?_) | ((with_reducible refine at_ (bz 8 47) ?_); refine on_ 4 (some 7) (bz 8 63) (fun K hK => ?_); refine value_env E (by rfl) rfl ?_; clear E; apply Exists.intro; apply Exists.intro; refine ⟨?_, ?_, fun gb wb E => ?_⟩; (· (first | rfl | (go_simp; done) | (go_simp; rfl))); (· rfl); refine hK.out _ _ (E.clsD 2) (fun hH => ?_); clear hK K; refine nm_ (some 7) ?_) | ((with_reducible refine at_ (bz 8 55) ?_); refine on_ 3 (some 21) (bz 8 63) (fun K hK => ?_); refine gs_ Tryz.func113 ?_; refine env_call E (den_calls E.getW E.getW) ?_; clear E; rintro e wc E ⟨br, Ar, nr, cr, rfl, hw_⟩; replace E := E.wh hw_; clear hw_; refine ⟨_, rfl, ?_⟩; refine hK.out _ _ (E.clsD 2) (fun hH => ?_); clear hK K; refine nm_ (some 21) ?_) | ((with_reducible refine at_ (bz 8 63) ?_); refine la_ 6 (none) (bz 8 127) (fun K hK => ?_); have q := E.cls; (repeat obtain ⟨_, _, q⟩ := q); clear q; refine sk_ (fun ws hs_ => ?_); replace E := Env.pt2 hs_ E; clear hs_; refine hK.out _ _ ?_; clear hK K; have q := E.cls; (repeat obtain ⟨_, _, q⟩ := q); clear q) | ((with_reducible refine at_ (bz 8 127) ?_); refine la_ 7 (none) (bz 8 255) (fun K hK => ?_); have q := E.cls; (repeat obtain ⟨_, _, q⟩ := q); clear q; refine sk_ (fun ws hs_ => ?_); replace E := Env.pt2 hs_ E; clear hs_; refine hK.out _ _ ?_; clear hK K; have q := E.cls; (repeat obtain ⟨_, _, q⟩ := q); clear q) | ((with_reducible refine at_ (bz 8 255) ?_); refine done_ (by kernel_rfl) ?_)))); all_goals (have q := E.cls; (repeat obtain ⟨_, _, q⟩ := q); clear q))
  all_goals (rw [dn_den] at E; go_wp2_with (first | fail); go_meet)
  all_goals (refine ⟨?_⟩; first | (apply TwoRel.mk1 E; (· (repeat (first | exact List.nil_sublist _ | exact List.Sublist.refl _ | apply List.Sublist.cons_cons | apply List.Sublist.cons))); (· (repeat (first | exact List.Mem.head _ | apply List.Mem.tail))); (· (repeat (first | exact List.Mem.head _ | apply List.Mem.tail)))) | (apply TwoRel.mk2 E; (· (repeat (first | exact List.nil_sublist _ | exact List.Sublist.refl _ | apply List.Sublist.cons_cons | apply List.Sublist.cons))); (· (repeat (first | exact List.Mem.head _ | apply List.Mem.tail))); (· (repeat (first | exact List.Mem.head _ | apply List.Mem.tail)))))
 case rest =>
  have TW := Aside0.mk hcut.out
  clear E hcut
  go_wp2
  go_loopg [6, 7, 8] ((q.den : Int).toNat + 1) (fun kq v6 v7 v8 w' => ∃ (n d : Int) (l : List Int) (bo : List (Nat × List Value × Nat)), Aside0 (XpInv q n d l kq) ∧ Aside0 (RowB v6 (l.map TX) bo) ∧ Aside0 (TwoRel W w' v7 v8 n d bo))
  case atStart => exact ⟨_, _, [], [], ⟨XpInv.start HQ.out HL.out.1 HL.out.2⟩, ⟨RowB.nil⟩, TW⟩
  case round =>
   clear TW
   obtain ⟨n, d, l, bo, INV, RB, TW0⟩ := hrel
   obtain ⟨g7, g8, b, A, x, c, b', A', x', c', rfl, rfl, TW⟩ := TW0.out
   clear TW0
   by_cases hd : d = 0
   ·subst hd
    have hs : (sgnI 0 != 0) = false := rfl
    have hs2 : sgnI 0 = 0 := rfl
    have hfin := Aside0.mk INV.out.fin
    have hlen := Aside0.mk (show (l.map TX).length ≤ maxLen by rw [List.length_map]; have := INV.out.2.2.2.2.1; simp only [maxLen]; omega)
    rcases TW.out with E | E
    all_goals have q := E.cls; (repeat obtain ⟨_, _, q⟩ := q); clear q
    all_goals (go_wp2_with (first | (go_at_call 84; refine env_call E (sign_calls E.getW) ?_; clear E; rintro e wc E rfl; have q := E.cls; (repeat obtain ⟨_, _, q⟩ := q); clear q)))
    all_goals refine bodyPost_ret (results_list (rs := [.tmp _, .tmp _]) rfl (by simp) (.tmp (.tmp .nil))) rfl ?_
    all_goals (refine ⟨E.below, ?_⟩; rw [← hfin.out]; obtain ⟨A9, c9, hv9, hC9⟩ := RowB.C (pre := [_, _]) E RB.out hlen.out; exact ⟨A9, c9, by rw [hv9]; rfl, hC9⟩)
   ·have hs : (sgnI d != 0) = true := bne_iff_ne.2 (mt (sgnI_zero d).1 hd)
    have hs2 : (sgnI d = 0) = False := eq_false (mt (sgnI_zero d).1 hd)
    have HD0 := Aside0.mk hd
    have hn := Aside0.mk (XpInv.next HQ.out INV.out hd)
    clear hd
    rcases TW.out with E | E
    all_goals clear TW
    all_goals have q := E.cls; (repeat obtain ⟨_, _, q⟩ := q); clear q
    all_goals (go_wp2_with (first | ((with_reducible first | refine gate_box (by rfl) ?_ | refine gate_alloc (by rfl) ?_); refine bx_ E ?_; clear E; intro gb wb E; have q := E.cls; (repeat obtain ⟨_, _, q⟩ := q); clear q) | ((with_reducible refine gate_stored (t := 77) (by rfl) ?_); refine st_ (fun ws hs_ => ?_); replace E := Env.pt2 hs_ E; clear hs_; have q := E.cls; (repeat obtain ⟨_, _, q⟩ := q); clear q) | (go_at_call 84; refine env_call E (sign_calls E.getW) ?_; clear E; rintro e wc E rfl; have q := E.cls; (repeat obtain ⟨_, _, q⟩ := q); clear q) | (go_at_call 120; refine env_call E (divmod_calls E.getW E.getW HD0.out (INV.out.2.2.1.fits (by decide)) (INV.out.2.2.2.1.fits (by decide))) ?_; clear E; rintro e wc E ⟨br, Ar, nr, cr, br2, Ar2, nr2, cr2, rfl, hw_, hw2_⟩; replace E := (E.wh hw_).wh hw2_; clear hw_ hw2_; have q := E.cls; (repeat obtain ⟨_, _, q⟩ := q); clear q) | (go_at_call 114; refine env_call E (text_calls E.getW (hn.out.2.2.1.mono (by decide))) ?_; clear E; rintro e wc E rfl; have q := E.cls; (repeat obtain ⟨_, _, q⟩ := q); clear q) | (at_builtin; refine RowB.append (pre := [_, _, _, _]) E RB.out _ _ 44 (TX (n.fdiv d)) (by rfl) (by rfl) Tryz.underlying44 info22 (by rfl) (by rfl) (by rw [List.length_map]; have := hn.out.2.2.2; omega) ?_; clear E RB; intro v1 bx1 bo1 w1 E RB_ hbx; rw [show l.map TX ++ [TX (n.fdiv d)] = (l ++ [n.fdiv d]).map TX from by simp] at RB_; have RB := Aside0.mk RB_; clear RB_)))
    all_goals (rcases hbx with rfl | ⟨g, cs, rfl, rfl⟩)
    all_goals (try simp only [List.cons_append, List.nil_append] at E)
    ·have q_ := E.cls; (repeat (first | (obtain ⟨_, _, q_⟩ := q_) | (replace q_ := Clb.skip q_))); clear q_
     (refine start_ (id := 9) (n := 4) (S := fun w' => Cls w' _) (ds := [3]) (bz 4 0) (by kernel_rfl) rfl rfl E.draw.cls02 (fun hH => ?_); replace E := E.draw; refine ta_ 0 (some 36) (bz 4 1) hH ?_; refine ta_ 1 (some 37) (bz 4 3) hH ?_; refine on_ 2 (none) (bz 4 7) (fun K hK => ?_); have q_ := E.cls; (repeat (first | (obtain ⟨_, _, q_⟩ := q_) | (replace q_ := Clb.skip q_))); clear q_; refine sk_ (fun ws hs_ => ?_); replace E := Env.pt2 hs_ E; clear hs_; refine hK.out _ _ E.cls02 (fun hH => ?_); clear hK K; have q_ := E.cls; (repeat (first | (obtain ⟨_, _, q_⟩ := q_) | (replace q_ := Clb.skip q_))); clear q_; refine la_ 3 (none) (bz 4 15) (fun K hK => ?_); have q_ := E.cls; (repeat (first | (obtain ⟨_, _, q_⟩ := q_) | (replace q_ := Clb.skip q_))); clear q_; refine sk_ (fun ws hs_ => ?_); replace E := Env.pt2 hs_ E; clear hs_; refine hK.out _ _ ?_; clear hK K; have q_ := E.cls; (repeat (first | (obtain ⟨_, _, q_⟩ := q_) | (replace q_ := Clb.skip q_))); clear q_; refine done_ (by kernel_rfl) ?_; all_goals (have q_ := E.cls; (repeat (first | (obtain ⟨_, _, q_⟩ := q_) | (replace q_ := Clb.skip q_))); clear q_))
     go_wp2_with (first | ((with_reducible first | refine gate_box (by rfl) ?_ | refine gate_alloc (by rfl) ?_); refine bx_ E ?_; clear E; intro gb wb E; have q_ := E.cls; (repeat (first | (obtain ⟨_, _, q_⟩ := q_) | (replace q_ := Clb.skip q_))); clear q_) | ((with_reducible refine gate_stored (t := 77) (by rfl) ?_); refine st_ (fun ws hs_ => ?_); replace E := Env.pt2 hs_ E; clear hs_; have q_ := E.cls; (repeat (first | (obtain ⟨_, _, q_⟩ := q_) | (replace q_ := Clb.skip q_))); clear q_))
     go_roundg ((n.fmod d).toNat + 1)
     case measure => exact hn.out.2.1
     case rel =>
      refine ⟨d, n.fmod d, l ++ [n.fdiv d], _, ⟨hn.out.1⟩, RB, ⟨?_⟩⟩
      apply TwoRel.mk1 E; (· (repeat (first | exact List.nil_sublist _ | exact List.Sublist.refl _ | apply List.Sublist.cons_cons | apply List.Sublist.cons))); (· (repeat (first | exact List.Mem.head _ | apply List.Mem.tail))); (· (repeat (first | exact List.Mem.head _ | apply List.Mem.tail)))
    ·have q_ := E.cls; (repeat (first | (obtain ⟨_, _, q_⟩ := q_) | (replace q_ := Clb.skip q_))); clear q_
     (refine start_ (id := 9) (n := 4) (S := fun w' => Cls w' _) (ds := [3]) (bz 4 0) (by kernel_rfl) rfl rfl E.draw.cls13 (fun hH => ?_); replace E := E.draw; refine ta_ 0 (some 36) (bz 4 1) hH ?_; refine ta_ 1 (some 37) (bz 4 3) hH ?_; refine on_ 2 (none) (bz 4 7) (fun K hK => ?_); have q_ := E.cls; (repeat (first | (obtain ⟨_, _, q_⟩ := q_) | (replace q_ := Clb.skip q_))); clear q_; refine sk_ (fun ws hs_ => ?_); replace E := Env.pt2 hs_ E; clear hs_; refine hK.out _ _ E.cls13 (fun hH => ?_); clear hK K; have q_ := E.cls; (repeat (first | (obtain ⟨_, _, q_⟩ := q_) | (replace q_ := Clb.skip q_))); clear q_; refine la_ 3 (none) (bz 4 15) (fun K hK => ?_); have q_ := E.cls; (repeat (first | (obtain ⟨_, _, q_⟩ := q_) | (replace q_ := Clb.skip q_))); clear q_; refine sk_ (fun ws hs_ => ?_); replace E := Env.pt2 hs_ E; clear hs_; refine hK.out _ _ ?_; clear hK K; have q_ := E.cls; (repeat (first | (obtain ⟨_, _, q_⟩ := q_) | (replace q_ := Clb.skip q_))); clear q_; refine done_ (by kernel_rfl) ?_; all_goals (have q_ := E.cls; (repeat (first | (obtain ⟨_, _, q_⟩ := q_) | (replace q_ := Clb.skip q_))); clear q_))
     go_wp2_with (first | ((with_reducible first | refine gate_box (by rfl) ?_ | refine gate_alloc (by rfl) ?_); refine bx_ E ?_; clear E; intro gb wb E; have q_ := E.cls; (repeat (first | (obtain ⟨_, _, q_⟩ := q_) | (replace q_ := Clb.skip q_))); clear q_) | ((with_reducible refine gate_stored (t := 77) (by rfl) ?_); refine st_ (fun ws hs_ => ?_); replace E := Env.pt2 hs_ E; clear hs_; have q_ := E.cls; (repeat (first | (obtain ⟨_, _, q_⟩ := q_) | (replace q_ := Clb.skip q_))); clear q_))
     go_roundg ((n.fmod d).toNat + 1)
     case measure => exact hn.out.2.1
     case rel =>
      refine ⟨d, n.fmod d, l ++ [n.fdiv d], _, ⟨hn.out.1⟩, RB, ⟨?_⟩⟩
      apply TwoRel.mk1 E; (· (repeat (first | exact List.nil_sublist _ | exact List.Sublist.refl _ | apply List.Sublist.cons_cons | apply List.Sublist.cons))); (· (repeat (first | exact List.Mem.head _ | apply List.Mem.tail))); (· (repeat (first | exact List.Mem.head _ | apply List.Mem.tail)))
    ·have q_ := E.cls; (repeat (first | (obtain ⟨_, _, q_⟩ := q_) | (replace q_ := Clb.skip q_))); clear q_
     (refine start_ (id := 9) (n := 4) (S := fun w' => Cls w' _) (ds := [3]) (bz 4 0) (by kernel_rfl) rfl rfl E.draw.cls03 (fun hH => ?_); replace E := E.draw; refine ta_ 0 (some 36) (bz 4 1) hH ?_; refine ta_ 1 (some 37) (bz 4 3) hH ?_; refine on_ 2 (none) (bz 4 7) (fun K hK => ?_); have q_ := E.cls; (repeat (first | (obtain ⟨_, _, q_⟩ := q_) | (replace q_ := Clb.skip q_))); clear q_; refine sk_ (fun ws hs_ => ?_); replace E := Env.pt2 hs_ E; clear hs_; refine hK.out _ _ E.cls03 (fun hH => ?_); clear hK K; have q_ := E.cls; (repeat (first | (obtain ⟨_, _, q_⟩ := q_) | (replace q_ := Clb.skip q_))); clear q_; refine la_ 3 (none) (bz 4 15) (fun K hK => ?_); have q_ := E.cls; (repeat (first | (obtain ⟨_, _, q_⟩ := q_) | (replace q_ := Clb.skip q_))); clear q_; refine sk_ (fun ws hs_ => ?_); replace E := Env.pt2 hs_ E; clear hs_; refine hK.out _ _ ?_; clear hK K; have q_ := E.cls; (repeat (first | (obtain ⟨_, _, q_⟩ := q_) | (replace q_ := Clb.skip q_))); clear q_; refine done_ (by kernel_rfl) ?_; all_goals (have q_ := E.cls; (repeat (first | (obtain ⟨_, _, q_⟩ := q_) | (replace q_ := Clb.skip q_))); clear q_))
     go_wp2_with (first | ((with_reducible first | refine gate_box (by rfl) ?_ | refine gate_alloc (by rfl) ?_); refine bx_ E ?_; clear E; intro gb wb E; have q_ := E.cls; (repeat (first | (obtain ⟨_, _, q_⟩ := q_) | (replace q_ := Clb.skip q_))); clear q_) | ((with_reducible refine gate_stored (t := 77) (by rfl) ?_); refine st_ (fun ws hs_ => ?_); replace E := Env.pt2 hs_ E; clear hs_; have q_ := E.cls; (repeat (first | (obtain ⟨_, _, q_⟩ := q_) | (replace q_ := Clb.skip q_))); clear q_))
     go_roundg ((n.fmod d).toNat + 1)
     case measure => exact hn.out.2.1
     case rel =>
      refine ⟨d, n.fmod d, l ++ [n.fdiv d], _, ⟨hn.out.1⟩, RB, ⟨?_⟩⟩
      apply TwoRel.mk1 E; (· (repeat (first | exact List.nil_sublist _ | exact List.Sublist.refl _ | apply List.Sublist.cons_cons | apply List.Sublist.cons))); (· (repeat (first | exact List.Mem.head _ | apply List.Mem.tail))); (· (repeat (first | exact List.Mem.head _ | apply List.Mem.tail)))
    ·have q_ := E.cls; (repeat (first | (obtain ⟨_, _, q_⟩ := q_) | (replace q_ := Clb.skip q_))); clear q_
     (refine start_ (id := 9) (n := 4) (S := fun w' => Cls w' _) (ds := [3]) (bz 4 0) (by kernel_rfl) rfl rfl E.draw.cls14 (fun hH => ?_); replace E := E.draw; refine ta_ 0 (some 36) (bz 4 1) hH ?_; refine ta_ 1 (some 37) (bz 4 3) hH ?_; refine on_ 2 (none) (bz 4 7) (fun K hK => ?_); have q_ := E.cls; (repeat (first | (obtain ⟨_, _, q_⟩ := q_) | (replace q_ := Clb.skip q_))); clear q_; refine sk_ (fun ws hs_ => ?_); replace E := Env.pt2 hs_ E; clear hs_; refine hK.out _ _ E.cls14 (fun hH => ?_); clear hK K; have q_ := E.cls; (repeat (first | (obtain ⟨_, _, q_⟩ := q_) | (replace q_ := Clb.skip q_))); clear q_; refine la_ 3 (none) (bz 4 15) (fun K hK => ?_); have q_ := E.cls; (repeat (first | (obtain ⟨_, _, q_⟩ := q_) | (replace q_ := Clb.skip q_))); clear q_; refine sk_ (fun ws hs_ => ?_); replace E := Env.pt2 hs_ E; clear hs_; refine hK.out _ _ ?_; clear hK K; have q_ := E.cls; (repeat (first | (obtain ⟨_, _, q_⟩ := q_) | (replace q_ := Clb.skip q_))); clear q_; refine done_ (by kernel_rfl) ?_; all_goals (have q_ := E.cls; (repeat (first | (obtain ⟨_, _, q_⟩ := q_) | (replace q_ := Clb.skip q_))); clear q_))
     go_wp2_with (first | ((with_reducible first | refine gate_box (by rfl) ?_ | refine gate_alloc (by rfl) ?_); refine bx_ E ?_; clear E; intro gb wb E; have q_ := E.cls; (repeat (first | (obtain ⟨_, _, q_⟩ := q_) | (replace q_ := Clb.skip q_))); clear q_) | ((with_reducible refine gate_stored (t := 77) (by rfl) ?_); refine st_ (fun ws hs_ => ?_); replace E := Env.pt2 hs_ E; clear hs_; have q_ := E.cls; (repeat (first | (obtain ⟨_, _, q_⟩ := q_) | (replace q_ := Clb.skip q_))); clear q_))
     go_roundg ((n.fmod d).toNat + 1)
     case measure => exact hn.out.2.1
     case rel =>
      refine ⟨d, n.fmod d, l ++ [n.fdiv d], _, ⟨hn.out.1⟩, RB, ⟨?_⟩⟩
      apply TwoRel.mk1 E; (· (repeat (first | exact List.nil_sublist _ | exact List.Sublist.refl _ | apply List.Sublist.cons_cons | apply List.Sublist.cons))); (· (repeat (first | exact List.Mem.head _ | apply List.Mem.tail))); (· (repeat (first | exact List.Mem.head _ | apply List.Mem.tail)))
def infS : ByteArray := ⟨#[105, 110, 102]⟩
def ev (s : ByteArray) : Option (Option Rat) := if s = infS then some none else (rv s).map some
def evs : List ByteArray → Option (List (Option Rat))
 |[] => some []
 |s :: r => match ev s, evs r with
  |some x, some xs => some (x :: xs)
  |_, _ => none
theorem evs_snoc : ∀ (l : List ByteArray) (s : ByteArray), evs (l ++ [s]) = match evs l, ev s with | some xs, some x => some (xs ++ [x]) | _, _ => none
 |[], s => by rw [List.nil_append, evs, evs, evs]; cases ev s <;> rfl
 |a :: l, s => by
  rw [List.cons_append, evs, evs_snoc l s, evs]
  cases ev a <;> cases evs l <;> cases ev s <;> rfl
theorem evs_none : ∀ (l r : List ByteArray) (s : ByteArray), ev s = none → evs (l ++ s :: r) = none
 |[], r, s, h => by rw [List.nil_append, evs, h]
 |a :: l, r, s, h => by rw [List.cons_append, evs, evs_none l r s h]; cases ev a <;> rfl
structure RawE where
 b : Bool
 A : Option Addr
 n : Nat
 c : Nat
 b' : Bool
 A' : Option Addr
 n' : Nat
 c' : Nat
 i : Bool
def RawE.cells (r : RawE) : List Value := [.bool r.b, .slice r.A r.n r.c, .bool r.b', .slice r.A' r.n' r.c', .bool r.i]
def EndOk (W : World) (r : RawE) : Option Rat → Prop
 |none => r.i = true ∧ Wh W r.b (.slice r.A r.n r.c) 0 ∧ Wh W r.b' (.slice r.A' r.n' r.c') 0
 |some q => r.i = false ∧ Wh W r.b (.slice r.A r.n r.c) q.num ∧ Wh W r.b' (.slice r.A' r.n' r.c') q.den
def EndsOk (W : World) : List RawE → List (Option Rat) → Prop
 |[], [] => True
 |r :: rs, x :: xs => EndOk W r x ∧ EndsOk W rs xs
 |_, _ => False
theorem EndOk.ik {W W' : World} {r : RawE} {x : Option Rat} (h : EndOk W r x) (k : IK W W') : EndOk W' r x := by
 cases x with
 |none => exact ⟨h.1, h.2.1.ik k, h.2.2.ik k⟩
 |some q => exact ⟨h.1, h.2.1.ik k, h.2.2.ik k⟩
theorem EndsOk.ik {W W' : World} (k : IK W W') : ∀ {rs : List RawE} {xs : List (Option Rat)}, EndsOk W rs xs → EndsOk W' rs xs
 |[], [], h => h
 |r :: rs, x :: xs, h => ⟨h.1.ik k, EndsOk.ik k h.2⟩
 |[], _ :: _, h => h.elim
 |_ :: _, [], h => h.elim
theorem EndsOk.snoc {W : World} {r : RawE} {x : Option Rat} (hx : EndOk W r x) : ∀ {rs : List RawE} {xs : List (Option Rat)}, EndsOk W rs xs → EndsOk W (rs ++ [r]) (xs ++ [x])
 |[], [], h => ⟨hx, trivial⟩
 |a :: rs, b :: xs, h => ⟨h.1, EndsOk.snoc hx h.2⟩
 |[], _ :: _, h => h.elim
 |_ :: _, [], h => h.elim
def Es (rs : List RawE) : List Value := rs.flatMap RawE.cells
theorem Es_snoc (rs : List RawE) (r : RawE) : Es (rs ++ [r]) = Es rs ++ r.cells := by simp [Es]
def RdsInv (ls : List ByteArray) (x : Int) (kq : Nat) (xs : List (Option Rat)) : Prop := 0 ≤ x ∧ x ≤ (ls.length : Int) ∧ (kq : Int) = (ls.length : Int) + 1 - x ∧ evs (ls.take x.toNat) = some xs
def RE (base : Nat) (o : Option (List (Option Rat))) (e : Ending) (w' : World) : Prop := match o with
 |none => e = .returned (.tuple #[.slice none 0 0, .bool false])
 |some xs => ∃ v rs, e = .returned (.tuple #[v, .bool true]) ∧ RowN 108 5 base w' v xs.length (Es rs) ∧ EndsOk w' rs xs
theorem rd_facts {ls : List ByteArray} {s : ByteArray} {x : Int} (HS : ∀ s ∈ ls, s.size ≤ 9000000000000) (x0 : 0 ≤ x) (hx : x < (ls.length : Int)) (hs : s = rdOf ByteArray.empty ls x) : s.size ≤ 9000000000000 ∧ ls.take (x.toNat + 1) = ls.take x.toNat ++ [s] ∧ ∃ r, ls = ls.take x.toNat ++ s :: r := by
 have hl : x.toNat < ls.length := by omega
 have e : s = ls[x.toNat] := by rw [hs]; simp [rdOf, hl]
 subst e
 exact ⟨HS _ (List.getElem_mem hl), by rw [List.take_succ_eq_append_getElem hl], ls.drop (x.toNat + 1), by rw [← List.drop_eq_getElem_cons hl, List.take_append_drop]⟩
theorem evs_len : ∀ {l : List ByteArray} {xs : List (Option Rat)}, evs l = some xs → xs.length = l.length
 |[], xs, h => by cases h; rfl
 |a :: l, xs, h => by
  rw [evs] at h
  split at h
  next x ys h1 h2 => cases h; rw [List.length_cons, List.length_cons, evs_len h2]
  ·cases h
theorem RdsInv.next {ls : List ByteArray} {x : Int} {kq : Nat} {xs : List (Option Rat)} {s : ByteArray} {e : Option Rat} (h : RdsInv ls x kq xs) (hx : x < (ls.length : Int)) (hm : ls.length ≤ 1000000) (ht : ls.take (x.toNat + 1) = ls.take x.toNat ++ [s]) (he : ev s = some e) :
  kq - 1 < kq ∧ RdsInv ls (wrap64 (x + 1)) (kq - 1) (xs ++ [e]) ∧ (wrap64 (x + 1)).toNat = x.toNat + 1 := by
 obtain ⟨h1, h2, h3, h4⟩ := h
 have hw : wrap64 (x + 1) = x + 1 := wrap_id (by omega) (by omega)
 rw [hw]
 refine ⟨by omega, ⟨by omega, by omega, by omega, ?_⟩, by omega⟩
 rw [show (x + 1).toNat = x.toNat + 1 by omega, ht, evs_snoc, h4, he]
theorem cells_one (r : RawE) : ∀ u ∈ r.cells, u.oneCell' = true := by
 intro u hu
 simp only [RawE.cells, List.mem_cons, List.not_mem_nil, or_false] at hu
 rcases hu with rfl | rfl | rfl | rfl | rfl <;> rfl
theorem reads_calls (w00 : World) {A : Option Addr} {c : Nat} {ls : List ByteArray} (h : Kd.C Kd.string w00 A ls.length ls) (hm : ls.length ≤ 1000000) (hs : ∀ s ∈ ls, s.size ≤ 9000000000000) : Calls Tryz.prog 110 #[.slice A ls.length c] w00 fun e w' => Below w00.heap.size w00 w' ∧ RE w00.heap.size (evs ls) e w' := by
 have D := Aside0.mk h
 have HM := Aside0.mk hm
 have HS := Aside0.mk hs
 have HB := Aside0.mk (Below.refl w00.heap.size w00)
 have HO := Aside0.mk (RowN.nil 108 5 w00.heap.size w00)
 clear h hm hs
 go_enter Tryz.func110, Tryz.ntmps110
 go_wp2
 go_loopg [4, 11] (ls.length + 1) (fun kq v4 v11 w' => ∃ (x : Int) (rs : List RawE) (xs : List (Option Rat)), v11 = .int .i64 x ∧ Aside0 (RdsInv ls x kq xs) ∧ Aside0 (RowN 108 5 w00.heap.size w' v4 x.toNat (Es rs)) ∧ Aside0 (EndsOk w' rs xs) ∧ Aside0 (Below w00.heap.size w00 w'))
 case atStart => exact ⟨0, [], [], rfl, ⟨by simp [RdsInv, evs]⟩, HO, ⟨trivial⟩, HB⟩
 case round =>
  clear HO HB
  obtain ⟨x, rs, xs, rfl, INV, HO, EO, HB⟩ := hrel
  have x0 : 0 ≤ x := INV.out.1
  by_cases hx : x < (ls.length : Int)
  ·have hxb : decide (x < (ls.length : Int)) = true := decide_eq_true hx
   obtain ⟨ad, eA, cA⟩ := Kd.at_string (Kd.C_below D.out HB.out) x x0 hx
   cases eA
   obtain ⟨s, hs⟩ : ∃ s, s = rdOf ByteArray.empty ls x := ⟨_, rfl⟩
   rw [← hs] at cA
   have HSS := Aside0.mk (show s.size ≤ 9000000000000 ∧ ls.take (x.toNat + 1) = ls.take x.toNat ++ [s] ∧ ∃ r, ls = ls.take x.toNat ++ s :: r from rd_facts HS.out x0 hx hs)
   have HX := Aside0.mk hx
   have hx1 : (0 ≤ x) = True := eq_true x0
   have hx2 : (x < (ls.length : Int)) = True := eq_true hx
   clear hx hs
   by_cases hinf : s = infS
   ·subst hinf
    have hi : (infS.toList == [105, 110, 102]) = true := by rw [ByteArray.toList_eq]; rfl
    have hn := INV.out.next HX.out HM.out HSS.out.2.1 (e := none) (by rw [ev, if_pos rfl])
    replace hn := Aside0.mk hn
    go_wp2_with (first | (at_builtin; refine RowN.append (w0 := w00) (base := w00.heap.size) (n := x.toNat) (xs := Es rs) (by rfl) _ _ 104 (.agg #[.bool false, .slice none 0 0, .bool false, .slice none 0 0, .bool false]) 72 (by rfl) Tryz.underlying104 info108 rfl rfl (by decide) (by decide) (RawE.cells ⟨false, none, 0, 0, false, none, 0, 0, true⟩) (by rfl) (by rfl) rfl (cells_one _) rfl HO.out HB.out HB.out.size (by have := HM.out; have := HX.out; omega) ?_; intro v1 w1 ho hb hik hg; clear hg))
    go_roundg (gk - 1)
    case measure => exact hn.out.1
    case rel => exact ⟨_, rs ++ [⟨false, none, 0, 0, false, none, 0, 0, true⟩], _, rfl, ⟨hn.out.2.1⟩, ⟨by rw [hn.out.2.2, Es_snoc]; exact ho⟩, ⟨EndsOk.snoc (r := ⟨false, none, 0, 0, false, none, 0, 0, true⟩) (x := none) ⟨rfl, Wh.zero _, Wh.zero _⟩ (EO.out.ik hik)⟩, ⟨hb⟩⟩
   ·have hi : (s.toList == [105, 110, 102]) = false := by
     refine Bool.eq_false_iff.2 fun h => hinf ?_
     have := beq_iff_eq.1 h
     rw [ByteArray.toList_eq] at this
     obtain ⟨⟨l⟩⟩ := s
     simp at this
     rw [this]
     rfl
    have HI := Aside0.mk hinf
    clear hinf
    have E := Env.start wr
    cases hr : rv s with
    |none =>
     have HR := Aside0.mk hr
     clear hr
     go_wp2_with (first | ((with_reducible first | refine gate_box (by rfl) ?_ | refine gate_alloc (by rfl) ?_); refine bx_ E ?_; clear E; intro gb wb E; have q := E.cls; (repeat obtain ⟨_, _, q⟩ := q); clear q) | (go_at_call 104; refine env_call E (rr_none _ HR.out HSS.out.1) ?_; clear E; rintro e wc E ⟨zr, zr2, br, Ar, nr, cr, br2, Ar2, nr2, cr2, rfl, hw_, hw2_⟩; replace E := (E.wh hw_).wh hw2_; clear hw_ hw2_; have q := E.cls; (repeat obtain ⟨_, _, q⟩ := q); clear q) | ((with_reducible refine gate_stored (t := 84) (by rfl) ?_); refine st_ (fun ws hs_ => ?_); replace E := Env.pt4 hs_ E; clear hs_; have q := E.cls; (repeat obtain ⟨_, _, q⟩ := q); clear q))
     refine bodyPost_ret (results_list (rs := [.tmp _, .tmp _]) rfl (by simp) (.tmp (.tmp .nil))) rfl ?_
     obtain ⟨r, hl⟩ := HSS.out.2.2
     rw [hl, evs_none _ _ _ (by rw [ev, if_neg HI.out, HR.out]; rfl)]
     exact ⟨HB.out.trans (E.below.mono HB.out.size), rfl⟩
    |some q =>
     have HR := Aside0.mk hr
     have hn := INV.out.next HX.out HM.out HSS.out.2.1 (e := some q) (by rw [ev, if_neg HI.out, hr]; rfl)
     replace hn := Aside0.mk hn
     clear hr
     go_wp2_with (first | ((with_reducible first | refine gate_box (by rfl) ?_ | refine gate_alloc (by rfl) ?_); refine bx_ E ?_; clear E; intro gb wb E; have q := E.cls; (repeat obtain ⟨_, _, q⟩ := q); clear q) | (go_at_call 104; refine env_call E (rr_some _ HR.out HSS.out.1) ?_; clear E; rintro e wc E ⟨br, Ar, nr, cr, br2, Ar2, nr2, cr2, rfl, hw_, hw2_⟩; replace E := (E.wh hw_).wh hw2_; clear hw_ hw2_; have q := E.cls; (repeat obtain ⟨_, _, q⟩ := q); clear q) | ((with_reducible refine gate_stored (t := 84) (by rfl) ?_); refine st_ (fun ws hs_ => ?_); replace E := Env.pt4 hs_ E; clear hs_; have q := E.cls; (repeat obtain ⟨_, _, q⟩ := q); clear q) | (at_builtin; refine RowN.append (w0 := w00) (base := w00.heap.size) (n := x.toNat) (xs := Es rs) (by rfl) _ _ 104 (.agg #[.bool false, .slice none 0 0, .bool false, .slice none 0 0, .bool false]) 72 (by rfl) Tryz.underlying104 info108 rfl rfl (by decide) (by decide) (RawE.cells ⟨br, Ar, nr, cr, br2, Ar2, nr2, cr2, false⟩) (by rfl) (by rfl) rfl (cells_one _) rfl (HO.out.below E.below) (HB.out.trans (E.below.mono HB.out.size)) (Nat.le_trans HB.out.size E.below.size) (by have := HM.out; have := HX.out; omega) ?_; intro v1 w1 ho hb hik hg; clear hg))
     go_roundg (gk - 1)
     case measure => exact hn.out.1
     case rel => exact ⟨_, rs ++ [⟨br, Ar, nr, cr, br2, Ar2, nr2, cr2, false⟩], _, rfl, ⟨hn.out.2.1⟩, ⟨by rw [hn.out.2.2, Es_snoc]; exact ho⟩, ⟨EndsOk.snoc (r := ⟨br, Ar, nr, cr, br2, Ar2, nr2, cr2, false⟩) (x := some q) ⟨rfl, E.getW.ik hik, E.getW.ik hik⟩ ((EO.out.ik (IK.below E.below)).ik hik)⟩, ⟨hb⟩⟩
  ·have hxb : decide (x < (ls.length : Int)) = false := decide_eq_false hx
   have HX := Aside0.mk hx
   have hx2 : (x < (ls.length : Int)) = False := eq_false hx
   clear hx
   go_wp2
   refine bodyPost_ret (results_list (rs := [.tmp _, .tmp _]) rfl (by simp) (.tmp (.tmp .nil))) rfl ?_
   have h3 := INV.out
   have e : x.toNat = ls.length := by have := h3.2.1; have := HX.out; omega
   have hx : evs ls = some xs := by have := h3.2.2.2; rwa [e, List.take_length] at this
   have hl : xs.length = ls.length := evs_len hx
   rw [hx]
   refine ⟨HB.out, _, rs, rfl, ?_, EO.out⟩
   have := HO.out
   rwa [e, ← hl] at this
def enN (x : Option Rat) : Int := x.elim 0 Rat.num
def enD (x : Option Rat) : Int := x.elim 0 fun q => q.den
def enI (x : Option Rat) : Bool := x.isNone
theorem EndOk.n {W : World} {r : RawE} {x : Option Rat} (h : EndOk W r x) : Wh W r.b (.slice r.A r.n r.c) (enN x) := by
 cases x with
 |none => exact h.2.1
 |some q => exact h.2.1
theorem EndOk.d {W : World} {r : RawE} {x : Option Rat} (h : EndOk W r x) : Wh W r.b' (.slice r.A' r.n' r.c') (enD x) := by
 cases x with
 |none => exact h.2.2
 |some q => exact h.2.2
theorem EndOk.i {W : World} {r : RawE} {x : Option Rat} (h : EndOk W r x) : r.i = enI x := by
 cases x with
 |none => exact h.1
 |some q => exact h.1
theorem two_strings (W : World) (a b : ByteArray) : Kd.C Kd.string (W.alloc (.cells #[.string a, .string b] 23 (0, 0))) (some ⟨W.heap.size, 0, none⟩) 2 [a, b] := by
 refine ⟨rfl, by decide, fun _ => ⟨_, rfl, fun j p hp => ⟨[.string p], rfl, rfl, fun i u hu => ?_⟩⟩⟩
 have hi : i = 0 := by
  rcases i with _ | i
  ·rfl
  ·simp at hu
 subst hi
 have hu' : u = .string p := by simpa using hu.symm
 subst hu'
 have := blk_cell (blk_new W (.cells #[.string a, .string b] 23 (0, 0))) j
 simp only [Addr.add_lit, Nat.zero_add, Nat.add_zero]
 rw [show j * Kd.string.sz = j from Nat.mul_one j, this]
 rcases j with _ | _ | j
 ·simpa using hp
 ·simpa using hp
 ·simp at hp
def ends2 (a b : ByteArray) : Option (Option Rat × Option Rat) := match ev a, ev b with
 |some x, some y => some (x, y)
 |_, _ => none
theorem evs_two (a b : ByteArray) : evs [a, b] = (ends2 a b).map fun p => [p.1, p.2] := by
 unfold evs evs ends2
 cases ev a <;> cases ev b <;> rfl
section
variable {w W : World} {rows : List (World → Prop)} {a b : ByteArray} {post : Ending → World → Prop}
theorem reads_none (E : Env w W rows []) (ha : a.size ≤ 9000000000000) (hb : b.size ≤ 9000000000000) (hx : ends2 a b = none) (h : ∀ w', Env w w' rows [] → post (.returned (.tuple #[.slice none 0 0, .bool false])) w') :
  Calls Tryz.prog 110 #[.slice (some ⟨W.heap.size, 0, none⟩) 2 2] (W.alloc (.cells #[.string a, .string b] 23 (0, 0))) post := by
 refine (reads_calls (W.alloc (.cells #[.string a, .string b] 23 (0, 0))) (two_strings W a b) (by simp) (by simp [ha, hb])).mono ?_
 rintro e w' ⟨hb', hr⟩
 rw [evs_two, hx] at hr
 obtain rfl := hr
 exact h w' ((E.next (below_alloc (Below.refl _ _) _)).next hb')
theorem reads_some (E : Env w W rows []) (ha : a.size ≤ 9000000000000) (hb : b.size ≤ 9000000000000) {x y : Option Rat} (hx : ends2 a b = some (x, y))
  (h : ∀ g cap b1 A1 x1 c1 b2 A2 x2 c2 b3 A3 x3 c3 b4 A4 x4 c4 cs w', Env w w' ((fun W => Wh W b1 (.slice A1 x1 c1) (enN x)) :: (fun W => Wh W b2 (.slice A2 x2 c2) (enD x)) :: (fun W => Wh W b3 (.slice A3 x3 c3) (enN y)) :: (fun W => Wh W b4 (.slice A4 x4 c4) (enD y)) :: rows)
   [(g, .bool b1 :: .slice A1 x1 c1 :: .bool b2 :: .slice A2 x2 c2 :: .bool (enI x) :: .bool b3 :: .slice A3 x3 c3 :: .bool b4 :: .slice A4 x4 c4 :: .bool (enI y) :: cs, 108)] → post (.returned (.tuple #[.slice (some ⟨g, 0, none⟩) 2 cap, .bool true])) w') :
  Calls Tryz.prog 110 #[.slice (some ⟨W.heap.size, 0, none⟩) 2 2] (W.alloc (.cells #[.string a, .string b] 23 (0, 0))) post := by
 refine (reads_calls (W.alloc (.cells #[.string a, .string b] 23 (0, 0))) (two_strings W a b) (by simp) (by simp [ha, hb])).mono ?_
 rintro e w' ⟨hb', hr⟩
 rw [evs_two, hx] at hr
 obtain ⟨v, rs, rfl, ho, he⟩ := hr
 obtain ⟨r1, r2, rfl⟩ : ∃ r1 r2, rs = [r1, r2] := by
  rcases rs with _ | ⟨r1, _ | ⟨r2, _ | ⟨r3, rs⟩⟩⟩
  ·exact he.elim
  ·exact he.2.elim
  ·exact ⟨r1, r2, rfl⟩
  ·exact he.2.2.elim
 have h1 : EndOk w' r1 x := he.1
 have h2 : EndOk w' r2 y := he.2.1
 rcases ho.2 with ⟨_, h0⟩ | ⟨g, cap, cs, rfl, hg, hh, _, _, _, hall⟩
 ·cases h0
 have E' := (((((E.next (below_alloc (Below.refl _ _) _)).next hb').wh h2.d).wh h2.n).wh h1.d).wh h1.n
 have hcs : Es [r1, r2] ++ cs = .bool r1.b :: .slice r1.A r1.n r1.c :: .bool r1.b' :: .slice r1.A' r1.n' r1.c' :: .bool (enI x) :: .bool r2.b :: .slice r2.A r2.n r2.c :: .bool r2.b' :: .slice r2.A' r2.n' r2.c' :: .bool (enI y) :: cs := by
  rw [← h1.i, ← h2.i]
  rfl
 rw [hcs] at hh hall
 refine h g cap r1.b r1.A r1.n r1.c r1.b' r1.A' r1.n' r1.c' r2.b r2.A r2.n r2.c r2.b' r2.A' r2.n' r2.c' cs w' ⟨E'.below, E'.rows, ⟨⟨?_, hh, hall, fun b hb => by cases hb⟩, trivial⟩⟩
 have := E.below.size
 have h3 : W.heap.size ≤ (W.alloc (.cells #[.string a, .string b] 23 (0, 0))).heap.size := (below_alloc (Below.refl W.heap.size W) (.cells #[.string a, .string b] 23 (0, 0))).size
 omega
end
theorem ev_ln {s : ByteArray} {x : Option Rat} (h : ev s = some x) : Ln (enN x) 112 ∧ Ln (enD x) 112 := by
 unfold ev at h
 split at h
 ·cases h
  exact ⟨Nat.le_trans (dg_abs_len (k := 1) (by decide)) (by decide), Nat.le_trans (dg_abs_len (k := 1) (by decide)) (by decide)⟩
 ·obtain ⟨q, hq, rfl⟩ := Option.map_eq_some_iff.1 h
  exact rv_ln (rv_some hq).2
theorem ends2_some {a b : ByteArray} {x y : Option Rat} (h : ends2 a b = some (x, y)) : ev a = some x ∧ ev b = some y := by
 unfold ends2 at h
 split at h
 next x' y' h1 h2 => cases h; exact ⟨h1, h2⟩
 ·cases h
def ce (x y : Option Rat) : Int := ecmp (enI x) (enI y) (enN x * dn (enD y) - enN y * dn (enD x))
theorem cmpe_calls (W : World) (a b : ByteArray) (hsa : a.size ≤ 9000000000000) (hsb : b.size ≤ 9000000000000) : Calls Tryz.prog 29 #[.string a, .string b] W fun e w' => Below W.heap.size W w' ∧ e = .returned (.int .i64 ((ends2 a b).elim 0 fun p => ce p.1 p.2)) := by
 have E := Env.start W
 have HSA := Aside0.mk hsa
 have HSB := Aside0.mk hsb
 cases h : ends2 a b with
 |none =>
  have HX := Aside0.mk h
  clear h hsa hsb
  go_enter Tryz.func29, Tryz.ntmps29
  go_wp2_with (first | (go_at_call 110; refine reads_none E HSA.out HSB.out HX.out ?_; clear E; rintro wc E))
  go_ret
  exact ⟨E.below, rfl⟩
 |some p =>
  obtain ⟨x, y⟩ := p
  have HX := Aside0.mk h
  have LX := Aside0.mk (ev_ln (ends2_some h).1)
  have LY := Aside0.mk (ev_ln (ends2_some h).2)
  clear h hsa hsb
  go_enter Tryz.func29, Tryz.ntmps29
  go_wp2_with (first | (go_at_call 110; refine reads_some E HSA.out HSB.out HX.out ?_; clear E; rintro g cap b1 A1 x1 c1 b2 A2 x2 c2 b3 A3 x3 c3 b4 A4 x4 c4 cs wc E; have q := E.cls; (repeat obtain ⟨_, _, q⟩ := q); clear q) | (refine start_ (id := 4) (n := 8) (S := fun w' => Cls w' _) (ds := []) (bz 8 0) (by kernel_rfl) rfl rfl E.draw.cls (fun hH => ?_); replace E := E.draw; refine pu_ 0 (some 16) (bz 8 1) ?_; refine pu_ 1 (some 17) (bz 8 3) ?_; refine pu_ 3 (some 19) (bz 8 11) ?_; refine pu_ 4 (some 20) (bz 8 27) ?_; refine ta_ 2 (some 18) (bz 8 31) hH ?_; refine ta_ 5 (some 21) (bz 8 63) hH ?_; refine on_ 6 (some 22) (bz 8 127) (fun K hK => ?_); refine gs_ Tryz.func111 ?_; refine env_call E (ecmp_calls E.getW E.getW E.getW E.getW LX.out.1 LX.out.2 LY.out.1 LY.out.2 (by omega) (by omega)) ?_; clear E; rintro e wc E rfl; refine ⟨_, rfl, ?_⟩; refine hK.out _ _ E.cls (fun hH => ?_); clear hK K; refine nm_ (some 22) ?_; refine pu_ 7 (some 4) (bz 8 255) ?_; refine done_ (by kernel_rfl) ?_; all_goals (have q := E.cls; (repeat obtain ⟨_, _, q⟩ := q); clear q)))
  go_ret
  exact ⟨E.below, rfl⟩
theorem maxe_calls (W : World) (a b : ByteArray) (hsa : a.size ≤ 9000000000000) (hsb : b.size ≤ 9000000000000) : Calls Tryz.prog 33 #[.string a, .string b] W fun e w' => Below W.heap.size W w' ∧ e = .returned (.string ((ends2 a b).elim ⟨#[]⟩ fun p => if ce p.1 p.2 < 0 then b else a)) := by
 have E := Env.start W
 have HSA := Aside0.mk hsa
 have HSB := Aside0.mk hsb
 cases h : ends2 a b with
 |none =>
  have HX := Aside0.mk h
  clear h hsa hsb
  go_enter Tryz.func33, Tryz.ntmps33
  go_wp2_with (first | (go_at_call 110; refine reads_none E HSA.out HSB.out HX.out ?_; clear E; rintro wc E))
  go_ret
  exact ⟨E.below, rfl⟩
 |some p =>
  obtain ⟨x, y⟩ := p
  have HX := Aside0.mk h
  have LX := Aside0.mk (ev_ln (ends2_some h).1)
  have LY := Aside0.mk (ev_ln (ends2_some h).2)
  clear h hsa hsb
  by_cases hc : ce x y < 0
  ·have hcb : decide (ecmp (enI x) (enI y) (enN x * dn (enD y) - enN y * dn (enD x)) < 0) = true := decide_eq_true hc
   simp only [Option.elim, if_pos hc]
   clear hc
   go_enter Tryz.func33, Tryz.ntmps33
   go_wp2_with (first | (go_at_call 110; refine reads_some E HSA.out HSB.out HX.out ?_; clear E; rintro g cap b1 A1 x1 c1 b2 A2 x2 c2 b3 A3 x3 c3 b4 A4 x4 c4 cs wc E; have q := E.cls; (repeat obtain ⟨_, _, q⟩ := q); clear q) | (refine start_ (id := 4) (n := 9) (S := fun w' => Cls w' _) (ds := []) (bz 9 0) (by kernel_rfl) rfl rfl E.draw.cls (fun hH => ?_); replace E := E.draw; refine pu_ 0 (some 18) (bz 9 1) ?_; refine pu_ 1 (some 19) (bz 9 3) ?_; refine pu_ 3 (some 21) (bz 9 11) ?_; refine pu_ 4 (some 22) (bz 9 27) ?_; refine ta_ 2 (some 20) (bz 9 31) hH ?_; refine ta_ 5 (some 23) (bz 9 63) hH ?_; refine on_ 6 (some 24) (bz 9 127) (fun K hK => ?_); refine gs_ Tryz.func111 ?_; refine env_call E (ecmp_calls E.getW E.getW E.getW E.getW LX.out.1 LX.out.2 LY.out.1 LY.out.2 (by omega) (by omega)) ?_; clear E; rintro e wc E rfl; refine ⟨_, rfl, ?_⟩; refine hK.out _ _ E.cls (fun hH => ?_); clear hK K; refine nm_ (some 24) ?_; refine pu_ 7 (some 25) (bz 9 255) ?_; refine pu_ 8 (some 17) (bz 9 511) ?_; refine done_ (by kernel_rfl) ?_; all_goals (have q := E.cls; (repeat obtain ⟨_, _, q⟩ := q); clear q)))
   go_ret
   exact ⟨E.below, rfl⟩
  ·have hcb : decide (ecmp (enI x) (enI y) (enN x * dn (enD y) - enN y * dn (enD x)) < 0) = false := decide_eq_false hc
   simp only [Option.elim, if_neg hc]
   clear hc
   go_enter Tryz.func33, Tryz.ntmps33
   go_wp2_with (first | (go_at_call 110; refine reads_some E HSA.out HSB.out HX.out ?_; clear E; rintro g cap b1 A1 x1 c1 b2 A2 x2 c2 b3 A3 x3 c3 b4 A4 x4 c4 cs wc E; have q := E.cls; (repeat obtain ⟨_, _, q⟩ := q); clear q) | (refine start_ (id := 4) (n := 9) (S := fun w' => Cls w' _) (ds := []) (bz 9 0) (by kernel_rfl) rfl rfl E.draw.cls (fun hH => ?_); replace E := E.draw; refine pu_ 0 (some 18) (bz 9 1) ?_; refine pu_ 1 (some 19) (bz 9 3) ?_; refine pu_ 3 (some 21) (bz 9 11) ?_; refine pu_ 4 (some 22) (bz 9 27) ?_; refine ta_ 2 (some 20) (bz 9 31) hH ?_; refine ta_ 5 (some 23) (bz 9 63) hH ?_; refine on_ 6 (some 24) (bz 9 127) (fun K hK => ?_); refine gs_ Tryz.func111 ?_; refine env_call E (ecmp_calls E.getW E.getW E.getW E.getW LX.out.1 LX.out.2 LY.out.1 LY.out.2 (by omega) (by omega)) ?_; clear E; rintro e wc E rfl; refine ⟨_, rfl, ?_⟩; refine hK.out _ _ E.cls (fun hH => ?_); clear hK K; refine nm_ (some 24) ?_; refine pu_ 7 (some 25) (bz 9 255) ?_; refine pu_ 8 (some 17) (bz 9 511) ?_; refine done_ (by kernel_rfl) ?_; all_goals (have q := E.cls; (repeat obtain ⟨_, _, q⟩ := q); clear q)))
   go_ret
   exact ⟨E.below, rfl⟩
section
variable {W : World} {b1 b2 b3 b4 : Bool} {A1 A2 A3 A4 : Option Addr} {x1 x2 x3 x4 c1 c2 c3 c4 : Nat} {x y : Option Rat}
end
end Go.Proofs.YtfmcgammhfdfnaaGreatDoor.PRatio
namespace Go.Proofs.YtfmcgammhfdfnaaGreatDoor.PRatio
open Go.RowKit Go.Proofs.YtfmcgammhfdfnaaGreatDoorW.PrintWords
set_option linter.unusedVariables false
set_option linter.unusedSimpArgs false
def In (a : Rat) (b : Option Rat) (r : Rat) : Prop := a ≤ r ∧ ∀ x, b = some x → r ≤ x
def SP (a : Rat) (b : Option Rat) (q : Rat) : Prop := In a b q ∧ ∀ r, In a b r → q.den ≤ r.den ∧ q.num.natAbs ≤ r.num.natAbs
theorem rnd_of {n d : Int} (hd : 0 < d) (hc : Int.gcd n d = 1) : (Rat.divInt n d).num = n ∧ ((Rat.divInt n d).den : Int) = d := by
 rw [Rat.num_divInt, Rat.den_divInt, if_neg (by omega), Int.gcd_comm d n, hc, Int.sign_eq_one_of_pos hd]
 simp
 omega
theorem rnd_add (r : Rat) (f : Int) : (r + f).num = r.num + f * r.den ∧ (r + f).den = r.den := by
 have hd := r.den_nz
 have hc : Int.gcd (r.num + f * r.den) r.den = 1 := by
  have := r.reduced
  rw [Int.gcd_add_mul_right_left]
  exact this
 have h1 : r + f = Rat.divInt (r.num + f * r.den) r.den := by
  have : (f : Rat) = Rat.divInt f 1 := by
   conv => lhs; rw [← Rat.num_divInt_den (f : Rat)]
   rfl
  conv => lhs; rw [← Rat.num_divInt_den r, this]
  rw [Rat.divInt_add_divInt _ _ (by omega) (by omega)]
  simp
 have := rnd_of (by omega) hc
 rw [h1]
 exact ⟨this.1, by omega⟩
theorem rnd_sub (r : Rat) (f : Int) : (r - f).num = r.num - f * r.den ∧ (r - f).den = r.den := by
 have := rnd_add r (-f)
 rw [Rat.sub_eq_add_neg, ← Rat.intCast_neg, this.1, this.2]
 constructor
 ·grind
 ·rfl
theorem rnum_pos {r : Rat} (h : 0 < r) : 0 < r.num := by
 have := (Rat.lt_iff 0 r).1 h
 simpa using this
theorem rnd_inv {r : Rat} (h : 0 < r) : (r⁻¹).num = r.den ∧ ((r⁻¹).den : Int) = r.num ∧ 0 < r.num := by
 have hp : 0 < r.num := rnum_pos h
 rw [Rat.num_inv, Rat.den_inv, if_neg (by omega), Int.sign_eq_one_of_pos hp]
 omega
theorem rsub_pos {a b : Rat} (h : a < b) : 0 < b - a := by grind
theorem rinv_anti {a b : Rat} (ha : 0 < a) (h : a ≤ b) : b⁻¹ ≤ a⁻¹ := by
 have hb : 0 < b := by grind
 have h1 := Rat.mul_inv_cancel a (by grind)
 have h2 := Rat.mul_inv_cancel b (by grind)
 have p1 : 0 < a⁻¹ := Rat.inv_pos.2 ha
 have p2 : 0 < b⁻¹ := Rat.inv_pos.2 hb
 have := Rat.mul_le_mul_of_nonneg_right h (Rat.le_of_lt p2)
 rw [h2] at this
 have := Rat.mul_le_mul_of_nonneg_right this (Rat.le_of_lt p1)
 rwa [Rat.one_mul, Rat.mul_comm a, Rat.mul_assoc, h1, Rat.mul_one] at this
theorem sp_int {a : Rat} {b : Option Rat} {n : Int} (ha : 0 < a) (h1 : ((n - 1 : Int) : Rat) < a) (h2 : a ≤ n) (hb : ∀ x, b = some x → (n : Rat) ≤ x) : SP a b n := by
 refine ⟨⟨h2, hb⟩, fun r hr => ?_⟩
 have hd := r.den_nz
 refine ⟨by show 1 ≤ _; omega, ?_⟩
 show n.natAbs ≤ _
 have hrn : 0 < r.num := rnum_pos (by have := hr.1; grind)
 have h3 : ((n - 1 : Int) : Rat) < r := by have := hr.1; grind
 rw [Rat.lt_iff] at h3
 have h4 : (n - 1) * (r.den : Int) < r.num * 1 := h3
 have h5 : 0 < n := by
  have : (0 : Rat) < ((n : Int) : Rat) := by grind
  exact Rat.intCast_pos.1 this
 have h6 : (n - 1) * 1 ≤ (n - 1) * (r.den : Int) := Int.mul_le_mul_of_nonneg_left (by omega) (by omega)
 omega
theorem sp_step {a b : Rat} {f : Int} {q : Rat} (hf : 0 ≤ f) (h1 : (f : Rat) < a) (h2 : a ≤ b) (h : SP (b - f)⁻¹ (some (a - f)⁻¹) q) : SP a (some b) (f + q⁻¹) := by
 have pa : 0 < a - f := rsub_pos h1
 have pb : 0 < b - f := by grind
 have pq : 0 < q := by have := h.1.1; have := Rat.inv_pos.2 pb; grind
 have hq1 := h.1.1
 have hq2 := h.1.2 _ rfl
 refine ⟨⟨?_, ?_⟩, ?_⟩
 ·have := rinv_anti pq hq2
  rw [Rat.inv_inv] at this
  grind
 ·rintro x hx
  cases hx
  have := rinv_anti (Rat.inv_pos.2 pb) hq1
  rw [Rat.inv_inv] at this
  grind
 ·rintro r ⟨hr1, hr2⟩
  have hr2 := hr2 _ rfl
  have pr : 0 < r - f := by grind
  obtain ⟨k1, k2⟩ := h.2 (r - f)⁻¹ ⟨rinv_anti pr (by grind), fun x hx => by cases hx; exact rinv_anti pa (by grind)⟩
  have e1 := rnd_inv pr
  have e2 := rnd_sub r f
  have e3 := rnd_inv pq
  have e4 := rnd_add q⁻¹ f
  rw [Rat.add_comm] at e4
  rw [e4.1, e4.2]
  rw [e1.1] at k2
  have k1' : (q.den : Int) ≤ r.num - f * r.den := by omega
  have hn : 0 < r.num := by
   have := e1.2.2
   rw [e2.1] at this
   have : 0 ≤ f * (r.den : Int) := Int.mul_nonneg hf (by omega)
   omega
  have k2' : q.num ≤ r.den := by rw [e2.2] at k2; omega
  have e5 := e3.2.1
  refine ⟨by omega, ?_⟩
  rw [e3.1, e5]
  have : f * q.num ≤ f * r.den := Int.mul_le_mul_of_nonneg_left k2' hf
  have : 0 ≤ f * q.num := Int.mul_nonneg hf (by omega)
  omega
theorem sp_uniq {a : Rat} {b : Option Rat} {p q : Rat} (ha : 0 < a) (hp : SP a b p) (hq : SP a b q) : p = q := by
 have h1 := hp.2 q hq.1
 have h2 := hq.2 p hp.1
 have : 0 < p.num := rnum_pos (by have := hp.1.1; grind)
 have : 0 < q.num := rnum_pos (by have := hq.1.1; grind)
 exact Rat.ext (by omega) (by omega)
theorem sp_less {a : Rat} {f : Int} (h1 : (f : Rat) < a) (h2 : a < ((f + 1 : Int) : Rat)) : ((a - f)⁻¹).num = a.den ∧ ((a - f)⁻¹).den < a.den ∧ (((a - f)⁻¹).den : Int) = a.num - f * a.den := by
 have e1 := rnd_inv (rsub_pos h1)
 have e2 := rnd_sub a f
 rw [Rat.lt_iff] at h2
 have h3 : a.num * 1 < (f + 1) * (a.den : Int) := h2
 refine ⟨by rw [e1.1, e2.2], ?_, by rw [e1.2.1, e2.1]⟩
 have := e1.2.1
 rw [e2.1] at this
 grind
theorem floor_le (a : Rat) : (a.floor : Rat) ≤ a := (Rat.le_floor_iff (x := a.floor)).1 (Int.le_refl _)
theorem floor_nonneg {a : Rat} (h : 0 < a) : 0 ≤ a.floor := (Rat.le_floor_iff (x := 0)).2 (by have : ((0 : Int) : Rat) = 0 := rfl; rw [this]; exact Rat.le_of_lt h)
theorem int_pred (z : Int) : (((z - 1 : Int)) : Rat) < (z : Rat) := Rat.intCast_lt_intCast.2 (by omega)
theorem sp_floor {a : Rat} {b : Option Rat} (ha : 0 < a) (c : ¬ (a.floor : Rat) < a) (hb : ∀ x, b = some x → a ≤ x) : SP a b (a.floor : Int) := by
 have e : (a.floor : Rat) = a := by have := floor_le a; grind
 refine sp_int ha ?_ (by rw [e]; exact Rat.le_refl) (fun x hx => by rw [e]; exact hb x hx)
 have := int_pred a.floor
 rwa [e] at this
theorem sp_ceil {a : Rat} {b : Option Rat} (ha : 0 < a) (c : (a.floor : Rat) < a) (hb : ∀ x, b = some x → ((a.floor + 1 : Int) : Rat) ≤ x) : SP a b ((a.floor + 1 : Int) : Rat) :=
 sp_int ha (by rw [Int.add_sub_cancel]; exact c) (Rat.le_of_lt (Rat.lt_floor_add_one a)) hb
theorem sp_ex : ∀ (m : Nat) (a b : Rat), a.den + b.den ≤ m → 0 < a → a ≤ b → ∃ q, SP a (some b) q
 |0, a, b, h, _, _ => absurd h (by have := a.den_nz; omega)
 |m + 1, a, b, h, ha, hab => by
  by_cases c : (a.floor : Rat) < a
  ·by_cases d : ((a.floor + 1 : Int) : Rat) ≤ b
   ·exact ⟨_, sp_ceil ha c (fun x hx => by cases hx; exact d)⟩
   ·have hb : b < ((a.floor + 1 : Int) : Rat) := by grind
    have fb : (a.floor : Rat) < b := by grind
    have h1 := sp_less c (Rat.lt_floor_add_one a)
    have h2 := sp_less fb hb
    obtain ⟨q, hq⟩ := sp_ex m (b - a.floor)⁻¹ (a - a.floor)⁻¹ (by omega) (Rat.inv_pos.2 (rsub_pos fb)) (rinv_anti (rsub_pos c) (by grind))
    exact ⟨_, sp_step (floor_nonneg ha) c hab hq⟩
  ·exact ⟨_, sp_floor ha c (fun x hx => by cases hx; exact hab)⟩
def simF : Nat → Rat → Option Rat → Rat
 |0, a, _ => a
 |m + 1, a, b => if (a.floor : Rat) < a then
   (match b with
   |none => ((a.floor + 1 : Int) : Rat)
   |some y => if ((a.floor + 1 : Int) : Rat) ≤ y then ((a.floor + 1 : Int) : Rat) else (a.floor : Rat) + (simF m (y - a.floor)⁻¹ (some (a - a.floor)⁻¹))⁻¹)
  else (a.floor : Rat)
theorem simF_sp : ∀ (m : Nat) (a b : Rat), a.den + b.den ≤ m → 0 < a → a ≤ b → SP a (some b) (simF m a (some b))
 |0, a, b, h, _, _ => absurd h (by have := a.den_nz; omega)
 |m + 1, a, b, h, ha, hab => by
  rw [simF]
  by_cases c : (a.floor : Rat) < a
  ·rw [if_pos c]
   by_cases d : ((a.floor + 1 : Int) : Rat) ≤ b
   ·rw [if_pos d]
    exact sp_ceil ha c (fun x hx => by cases hx; exact d)
   ·rw [if_neg d]
    have hb : b < ((a.floor + 1 : Int) : Rat) := by grind
    have fb : (a.floor : Rat) < b := by grind
    have h1 := sp_less c (Rat.lt_floor_add_one a)
    have h2 := sp_less fb hb
    exact sp_step (floor_nonneg ha) c hab (simF_sp m (b - a.floor)⁻¹ (a - a.floor)⁻¹ (by omega) (Rat.inv_pos.2 (rsub_pos fb)) (rinv_anti (rsub_pos c) (by grind)))
  ·rw [if_neg c]
   exact sp_floor ha c (fun x hx => by cases hx; exact hab)
def simQ (a : Rat) (b : Option Rat) : Rat := simF (a.den + b.elim 1 Rat.den) a b
theorem simQ_some {a b : Rat} (ha : 0 < a) (hab : a ≤ b) : SP a (some b) (simQ a (some b)) := simF_sp _ a b (Nat.le_refl _) ha hab
theorem simQ_none {a : Rat} (ha : 0 < a) : SP a none (simQ a none) := by
 unfold simQ
 rw [show a.den + (none : Option Rat).elim 1 Rat.den = a.den + 1 from rfl, simF]
 by_cases c : (a.floor : Rat) < a
 ·rw [if_pos c]
  exact sp_ceil ha c (fun x hx => by cases hx)
 ·rw [if_neg c]
  exact sp_floor ha c (fun x hx => by cases hx)
end Go.Proofs.YtfmcgammhfdfnaaGreatDoor.PRatio
namespace Go.Proofs.YtfmcgammhfdfnaaGreatDoor.PRatio
open Go.RowKit Go.Proofs.YtfmcgammhfdfnaaGreatDoorW.PrintWords Go.Proofs.YtfmcgammhfdfnaaGreatDoorW.PrintLast Go.Proofs.YtfmcgammhfdfnaaGreatDoorW.PrintMore
set_option linter.unusedVariables false
set_option linter.unusedSimpArgs false
set_option maxHeartbeats 8000000
set_option maxRecDepth 100000
def scmp (x y : Rat) : Int := sgnI (x.num * y.den - y.num * x.den)
theorem scmp_lt (x y : Rat) : scmp x y < 0 ↔ x < y := by
 unfold scmp
 rw [sgnI_neg, Rat.lt_iff]
 omega
theorem scmp_le (x y : Rat) : scmp x y ≤ 0 ↔ x ≤ y := by
 have h := sgnI_pos (x.num * y.den - y.num * x.den)
 unfold scmp
 rw [Rat.le_iff]
 omega
section
variable {W : World} {b1 b2 b3 b4 : Bool} {A1 A2 A3 A4 : Option Addr} {x1 x2 x3 x4 c1 c2 c3 c4 k : Nat} {x y : Rat}
theorem qsub (h1 : Wh W b1 (.slice A1 x1 c1) x.num) (h2 : Wh W b2 (.slice A2 x2 c2) x.den) (h3 : Wh W b3 (.slice A3 x3 c3) y.num) (h4 : Wh W b4 (.slice A4 x4 c4) y.den) (lx : Lnq x 300) (ly : Lnq y 300) :
  Calls Tryz.prog 101 #[.agg #[.bool b1, .slice A1 x1 c1, .bool b2, .slice A2 x2 c2], .agg #[.bool b3, .slice A3 x3 c3, .bool b4, .slice A4 x4 c4]] W fun e w' => Below W.heap.size W w' ∧ RR (x - y) e w' := by
 have := rsub_calls h1 h2 h3 h4 lx.1 lx.2 ly.1 ly.2 (by omega) (by omega)
 simpa only [rq_self] using this
theorem qadd (h1 : Wh W b1 (.slice A1 x1 c1) x.num) (h2 : Wh W b2 (.slice A2 x2 c2) x.den) (h3 : Wh W b3 (.slice A3 x3 c3) y.num) (h4 : Wh W b4 (.slice A4 x4 c4) y.den) (lx : Lnq x 300) (ly : Lnq y 300) :
  Calls Tryz.prog 115 #[.agg #[.bool b1, .slice A1 x1 c1, .bool b2, .slice A2 x2 c2], .agg #[.bool b3, .slice A3 x3 c3, .bool b4, .slice A4 x4 c4]] W fun e w' => Below W.heap.size W w' ∧ RR (x + y) e w' := by
 have := radd_calls h1 h2 h3 h4 lx.1 lx.2 ly.1 ly.2 (by omega) (by omega)
 simpa only [rq_self] using this
theorem qquo (h1 : Wh W b1 (.slice A1 x1 c1) x.num) (h2 : Wh W b2 (.slice A2 x2 c2) x.den) (h3 : Wh W b3 (.slice A3 x3 c3) y.num) (h4 : Wh W b4 (.slice A4 x4 c4) y.den) (lx : Lnq x 300) (ly : Lnq y 300) (h0 : y.num ≠ 0) :
  Calls Tryz.prog 103 #[.agg #[.bool b1, .slice A1 x1 c1, .bool b2, .slice A2 x2 c2], .agg #[.bool b3, .slice A3 x3 c3, .bool b4, .slice A4 x4 c4]] W fun e w' => Below W.heap.size W w' ∧ RR (x / y) e w' := by
 have := rquo_calls h1 h2 h3 h4 lx.1 lx.2 ly.1 ly.2 (by omega) (by omega) h0
 simpa only [rq_self] using this
theorem qcmp (h1 : Wh W b1 (.slice A1 x1 c1) x.num) (h2 : Wh W b2 (.slice A2 x2 c2) x.den) (h3 : Wh W b3 (.slice A3 x3 c3) y.num) (h4 : Wh W b4 (.slice A4 x4 c4) y.den) (lx : Lnq x 300) (ly : Lnq y 300) :
  Calls Tryz.prog 167 #[.agg #[.bool b1, .slice A1 x1 c1, .bool b2, .slice A2 x2 c2], .agg #[.bool b3, .slice A3 x3 c3, .bool b4, .slice A4 x4 c4]] W fun e w' => Below W.heap.size W w' ∧ (fun e w' => e = .returned (.int .i64 (scmp x y))) e w' := by
 have := rcmp_calls h1 h2 h3 h4 lx.1 lx.2 ly.1 ly.2 (by omega) (by omega)
 simp only [dn_den] at this
 exact this
theorem qfloor (h1 : Wh W b1 (.slice A1 x1 c1) x.num) (h2 : Wh W b2 (.slice A2 x2 c2) x.den) (lx : Lnq x 300) :
  Calls Tryz.prog 124 #[.agg #[.bool b1, .slice A1 x1 c1, .bool b2, .slice A2 x2 c2]] W fun e w' => Below W.heap.size W w' ∧ RW x.floor e w' := by
 have := floor_calls h1 h2 (lx.1.fits (by omega)) ((lx.2.dn (by omega)).fits (by omega))
 rw [fl_floor] at this
 exact this
end
theorem ln_fl {q : Rat} {k : Nat} (h : Lnq q k) : Ln q.floor k := by rw [← fl_floor]; exact ln_floor h.1
theorem lnq_int {z : Int} {k : Nat} (h : Ln z k) (hk : 1 ≤ k) : Lnq (z : Rat) k := ⟨h, ln_one.mono hk⟩
theorem h11 : Rat.divInt 1 1 = 1 := rfl
theorem ln_11 : Lnq 1 300 := ⟨ln_one.mono (by omega), ln_one.mono (by omega)⟩
section
variable {W : World} {b1 b2 b3 b4 : Bool} {A1 A2 A3 A4 : Option Addr} {x1 x2 x3 x4 c1 c2 c3 c4 k : Nat} {a : Rat} {z z' : Int}
theorem simplest_none (h1 : Wh W b1 (.slice A1 x1 c1) a.num) (h2 : Wh W b2 (.slice A2 x2 c2) a.den) (h3 : Wh W b3 (.slice A3 x3 c3) z) (h4 : Wh W b4 (.slice A4 x4 c4) z') (la : Lnq a 112) (ha : 0 < a) {q : Rat} (hq : SP a none q) :
  Calls Tryz.prog 112 #[.agg #[.bool b1, .slice A1 x1 c1, .bool b2, .slice A2 x2 c2], .agg #[.bool b3, .slice A3 x3 c3, .bool b4, .slice A4 x4 c4, .bool true]] W fun e w' => Below W.heap.size W w' ∧ RR q e w' := by
 have E := ((((Env.start W).wh h1).wh h2).wh h3).wh h4
 have LA := Aside0.mk la
 have LF := Aside0.mk (ln_fl la)
 clear h1 h2 h3 h4
 by_cases c : (a.floor : Rat) < a
 ·have hc : decide (scmp a.floor a < 0) = true := decide_eq_true ((scmp_lt _ _).2 c)
  obtain rfl : q = ((a.floor + 1 : Int) : Rat) := sp_uniq ha hq (sp_ceil ha c (fun x hx => by cases hx))
  clear c hq ha la
  go_enter Tryz.func112, Tryz.ntmps112
  go_wp2_with (first | ((with_reducible first | refine gate_box (by rfl) ?_ | refine gate_alloc (by rfl) ?_); refine bx_ E ?_; clear E; intro gb wb E; have q := E.cls; (repeat obtain ⟨_, _, q⟩ := q); clear q) | (go_at_call 124; refine env_call E (qfloor E.getW E.getW (LA.out.mono (by omega))) ?_; clear E; rintro e wc E ⟨br, Ar, nr, cr, rfl, hw_⟩; replace E := E.wh hw_; clear hw_; have q := E.cls; (repeat obtain ⟨_, _, q⟩ := q); clear q) | ((with_reducible refine gate_stored (t := 77) (by rfl) ?_); refine st_ (fun ws hs_ => ?_); replace E := Env.pt2 hs_ E; clear hs_; have q := E.cls; (repeat obtain ⟨_, _, q⟩ := q); clear q) | ((with_reducible refine gate_stored (t := 84) (by rfl) ?_); refine st_ (fun ws hs_ => ?_); replace E := Env.pt4 hs_ E; clear hs_; have q := E.cls; (repeat obtain ⟨_, _, q⟩ := q); clear q) | (refine start_ (id := 2) (n := 5) (S := fun w' => Cls w' _) (ds := []) (bz 5 0) (by kernel_rfl) rfl rfl E.draw.cls (fun hH => ?_); replace E := E.draw; refine ta_ 0 (some 11) (bz 5 1) hH ?_; refine ta_ 2 (some 13) (bz 5 5) hH ?_; refine on_ 1 (some 12) (bz 5 7) (fun K hK => ?_); refine gs_ Tryz.func168 ?_; refine env_call E (rint_calls E.getW (LF.out.fits (by omega))) ?_; clear E; rintro e wc E ⟨br, Ar, nr, cr, br2, Ar2, nr2, cr2, rfl, hw_, hw2_⟩; replace E := (E.wh hw_).wh hw2_; clear hw_ hw2_; refine ⟨_, rfl, ?_⟩; refine hK.out _ _ E.cls (fun hH => ?_); clear hK K; refine nm_ (some 12) ?_; refine on_ 3 (some 14) (bz 5 15) (fun K hK => ?_); refine gs_ Tryz.func167 ?_; refine env_call E (qcmp (x := (a.floor : Rat)) (y := a) E.getW E.getW E.getW E.getW (lnq_int (LF.out.mono (by omega)) (by omega)) (LA.out.mono (by omega))) ?_; clear E; rintro e wc E rfl; refine ⟨_, rfl, ?_⟩; refine hK.out _ _ E.cls (fun hH => ?_); clear hK K; refine nm_ (some 14) ?_; refine pu_ 4 (some 15) (bz 5 31) ?_; refine done_ (by kernel_rfl) ?_; all_goals (have q := E.cls; (repeat obtain ⟨_, _, q⟩ := q); clear q)) | (refine start_ (id := 3) (n := 4) (S := fun w' => Cls w' _) (ds := [3]) (bz 4 0) (by kernel_rfl) rfl rfl E.draw.cls (fun hH => ?_); replace E := E.draw; refine ta_ 0 (some 16) (bz 4 1) hH ?_; refine on_ 1 (some 17) (bz 4 3) (fun K hK => ?_); refine gs_ Tryz.func121 ?_; refine env_call E (of_calls (n := 1) (by omega) (by omega)) ?_; clear E; rintro e wc E ⟨br, Ar, nr, cr, rfl, hw_⟩; replace E := E.wh hw_; clear hw_; refine ⟨_, rfl, ?_⟩; refine hK.out _ _ E.cls (fun hH => ?_); clear hK K; refine nm_ (some 17) ?_; refine on_ 2 (some 18) (bz 4 7) (fun K hK => ?_); refine gs_ Tryz.func123 ?_; refine env_call E (add_calls (z := a.floor) (z' := 1) E.getW E.getW (LF.out.fits (by omega)) (ln_one.fits (by omega))) ?_; clear E; rintro e wc E ⟨br, Ar, nr, cr, rfl, hw_⟩; replace E := E.wh hw_; clear hw_; refine ⟨_, rfl, ?_⟩; refine hK.out _ _ E.cls (fun hH => ?_); clear hK K; refine nm_ (some 18) ?_; refine la_ 3 (none) (bz 4 15) (fun K hK => ?_); have q := E.cls; (repeat obtain ⟨_, _, q⟩ := q); clear q; refine sk_ (fun ws hs_ => ?_); replace E := Env.pt2 hs_ E; clear hs_; refine hK.out _ _ ?_; clear hK K; have q := E.cls; (repeat obtain ⟨_, _, q⟩ := q); clear q; refine done_ (by kernel_rfl) ?_; all_goals (have q := E.cls; (repeat obtain ⟨_, _, q⟩ := q); clear q)) | (refine start_ (id := 4) (n := 10) (S := fun w' => Cls w' _) (ds := []) (bz 10 0) (by kernel_rfl) rfl rfl E.draw.cls (fun hH => ?_); replace E := E.draw; refine pu_ 0 (some 19) (bz 10 1) ?_; refine ta_ 1 (some 20) (bz 10 3) hH ?_; refine pu_ 2 (some 21) (bz 10 7) ?_; (first | (refine pu_ 5 (some 24) (bz 10 39) ?_) | (refine po_ 5 (some 24) (bz 10 39) ?_)); (first | (refine ta_ 3 (some 22) (bz 10 47) hH ?_) | (refine po_ 3 (some 22) (bz 10 47) ?_)); (first | (refine ta_ 6 (some 25) (bz 10 111) hH ?_) | (refine po_ 6 (some 25) (bz 10 111) ?_)); refine on_ 4 (some 23) (bz 10 127) (fun K hK => ?_); (first | (refine off_ (by rfl) ?_; refine hK.out _ _ E.cls (fun hH => ?_); clear hK K) | (refine gs_ Tryz.func168 ?_; refine env_call E (rint_calls E.getW (by omega)) ?_; clear E; rintro e wc E ⟨br, Ar, nr, cr, br2, Ar2, nr2, cr2, rfl, hw_, hw2_⟩; replace E := (E.wh hw_).wh hw2_; clear hw_ hw2_; refine ⟨_, rfl, ?_⟩; refine hK.out _ _ E.cls (fun hH => ?_); clear hK K)); refine nm_ (some 23) ?_; refine on_ 7 (some 26) (bz 10 255) (fun K hK => ?_); (first | (refine off_ (by rfl) ?_; refine hK.out _ _ E.cls (fun hH => ?_); clear hK K) | (refine gs_ Tryz.func167 ?_; refine env_call E (qcmp E.getW E.getW E.getW E.getW (by omega) (by omega)) ?_; clear E; rintro e wc E rfl; refine ⟨_, rfl, ?_⟩; refine hK.out _ _ E.cls (fun hH => ?_); clear hK K)); refine nm_ (some 26) ?_; (first | (refine pu_ 8 (some 27) (bz 10 511) ?_) | (refine po_ 8 (some 27) (bz 10 511) ?_)); refine pu_ 9 (some 28) (bz 10 1023) ?_; refine done_ (by kernel_rfl) ?_; all_goals (have q := E.cls; (repeat obtain ⟨_, _, q⟩ := q); clear q)) | (go_at_call 168; refine env_call E (rint_calls (z := a.floor + 1) E.getW ((LF.out.add (ln_one.mono (by omega))).fits (by omega))) ?_; clear E; rintro e wc E ⟨br, Ar, nr, cr, br2, Ar2, nr2, cr2, rfl, hw_, hw2_⟩; replace E := (E.wh hw_).wh hw2_; clear hw_ hw2_; have q := E.cls; (repeat obtain ⟨_, _, q⟩ := q); clear q))
  refine bodyPost_ret (results_single rfl (.cell _ _ _ (0, 0) _ rfl E.blk Tryz.underlying84 rfl (by kernel_rfl) .nil)) rfl ?_
  exact ⟨E.below, RQ.mk E.getW E.getW⟩
 ·have hc : decide (scmp a.floor a < 0) = false := decide_eq_false (fun h => c ((scmp_lt _ _).1 h))
  obtain rfl : q = (a.floor : Rat) := sp_uniq ha hq (sp_floor ha c (fun x hx => by cases hx))
  clear c hq ha la
  go_enter Tryz.func112, Tryz.ntmps112
  go_wp2_with (first | ((with_reducible first | refine gate_box (by rfl) ?_ | refine gate_alloc (by rfl) ?_); refine bx_ E ?_; clear E; intro gb wb E; have q := E.cls; (repeat obtain ⟨_, _, q⟩ := q); clear q) | (go_at_call 124; refine env_call E (qfloor E.getW E.getW (LA.out.mono (by omega))) ?_; clear E; rintro e wc E ⟨br, Ar, nr, cr, rfl, hw_⟩; replace E := E.wh hw_; clear hw_; have q := E.cls; (repeat obtain ⟨_, _, q⟩ := q); clear q) | ((with_reducible refine gate_stored (t := 77) (by rfl) ?_); refine st_ (fun ws hs_ => ?_); replace E := Env.pt2 hs_ E; clear hs_; have q := E.cls; (repeat obtain ⟨_, _, q⟩ := q); clear q) | ((with_reducible refine gate_stored (t := 84) (by rfl) ?_); refine st_ (fun ws hs_ => ?_); replace E := Env.pt4 hs_ E; clear hs_; have q := E.cls; (repeat obtain ⟨_, _, q⟩ := q); clear q) | (refine start_ (id := 2) (n := 5) (S := fun w' => Cls w' _) (ds := []) (bz 5 0) (by kernel_rfl) rfl rfl E.draw.cls (fun hH => ?_); replace E := E.draw; refine ta_ 0 (some 11) (bz 5 1) hH ?_; refine ta_ 2 (some 13) (bz 5 5) hH ?_; refine on_ 1 (some 12) (bz 5 7) (fun K hK => ?_); refine gs_ Tryz.func168 ?_; refine env_call E (rint_calls E.getW (LF.out.fits (by omega))) ?_; clear E; rintro e wc E ⟨br, Ar, nr, cr, br2, Ar2, nr2, cr2, rfl, hw_, hw2_⟩; replace E := (E.wh hw_).wh hw2_; clear hw_ hw2_; refine ⟨_, rfl, ?_⟩; refine hK.out _ _ E.cls (fun hH => ?_); clear hK K; refine nm_ (some 12) ?_; refine on_ 3 (some 14) (bz 5 15) (fun K hK => ?_); refine gs_ Tryz.func167 ?_; refine env_call E (qcmp (x := (a.floor : Rat)) (y := a) E.getW E.getW E.getW E.getW (lnq_int (LF.out.mono (by omega)) (by omega)) (LA.out.mono (by omega))) ?_; clear E; rintro e wc E rfl; refine ⟨_, rfl, ?_⟩; refine hK.out _ _ E.cls (fun hH => ?_); clear hK K; refine nm_ (some 14) ?_; refine pu_ 4 (some 15) (bz 5 31) ?_; refine done_ (by kernel_rfl) ?_; all_goals (have q := E.cls; (repeat obtain ⟨_, _, q⟩ := q); clear q)) | (refine start_ (id := 4) (n := 10) (S := fun w' => Cls w' _) (ds := []) (bz 10 0) (by kernel_rfl) rfl rfl E.draw.cls (fun hH => ?_); replace E := E.draw; refine pu_ 0 (some 19) (bz 10 1) ?_; refine ta_ 1 (some 20) (bz 10 3) hH ?_; refine pu_ 2 (some 21) (bz 10 7) ?_; (first | (refine pu_ 5 (some 24) (bz 10 39) ?_) | (refine po_ 5 (some 24) (bz 10 39) ?_)); (first | (refine ta_ 3 (some 22) (bz 10 47) hH ?_) | (refine po_ 3 (some 22) (bz 10 47) ?_)); (first | (refine ta_ 6 (some 25) (bz 10 111) hH ?_) | (refine po_ 6 (some 25) (bz 10 111) ?_)); refine on_ 4 (some 23) (bz 10 127) (fun K hK => ?_); (first | (refine off_ (by rfl) ?_; refine hK.out _ _ E.cls (fun hH => ?_); clear hK K) | (refine gs_ Tryz.func168 ?_; refine env_call E (rint_calls E.getW (by omega)) ?_; clear E; rintro e wc E ⟨br, Ar, nr, cr, br2, Ar2, nr2, cr2, rfl, hw_, hw2_⟩; replace E := (E.wh hw_).wh hw2_; clear hw_ hw2_; refine ⟨_, rfl, ?_⟩; refine hK.out _ _ E.cls (fun hH => ?_); clear hK K)); refine nm_ (some 23) ?_; refine on_ 7 (some 26) (bz 10 255) (fun K hK => ?_); (first | (refine off_ (by rfl) ?_; refine hK.out _ _ E.cls (fun hH => ?_); clear hK K) | (refine gs_ Tryz.func167 ?_; refine env_call E (qcmp E.getW E.getW E.getW E.getW (by omega) (by omega)) ?_; clear E; rintro e wc E rfl; refine ⟨_, rfl, ?_⟩; refine hK.out _ _ E.cls (fun hH => ?_); clear hK K)); refine nm_ (some 26) ?_; (first | (refine pu_ 8 (some 27) (bz 10 511) ?_) | (refine po_ 8 (some 27) (bz 10 511) ?_)); refine pu_ 9 (some 28) (bz 10 1023) ?_; refine done_ (by kernel_rfl) ?_; all_goals (have q := E.cls; (repeat obtain ⟨_, _, q⟩ := q); clear q)) | (go_at_call 168; refine env_call E (rint_calls (z := a.floor) E.getW (LF.out.fits (by omega))) ?_; clear E; rintro e wc E ⟨br, Ar, nr, cr, br2, Ar2, nr2, cr2, rfl, hw_, hw2_⟩; replace E := (E.wh hw_).wh hw2_; clear hw_ hw2_; have q := E.cls; (repeat obtain ⟨_, _, q⟩ := q); clear q))
  refine bodyPost_ret (results_single rfl (.cell _ _ _ (0, 0) _ rfl E.blk Tryz.underlying84 rfl (by kernel_rfl) .nil)) rfl ?_
  exact ⟨E.below, RQ.mk E.getW E.getW⟩
end
def LeM (q : Rat) (M : Nat) : Prop := q.num.natAbs ≤ M ∧ q.den ≤ M
theorem LeM.ln {q : Rat} {M : Nat} (h : LeM q M) (hM : Ln (M : Int) 112) : Lnq q 112 :=
 ⟨Nat.le_trans (len_mono (by rw [Int.natAbs_natCast]; exact h.1)) hM, Nat.le_trans (len_mono (by rw [Int.natAbs_natCast, Int.natAbs_natCast]; exact h.2)) hM⟩
theorem frac_one {W : World} : Calls Tryz.prog 116 #[.int .i64 1, .int .i64 1] W fun e w' => Below W.heap.size W w' ∧ RR 1 e w' := by
 have := frac_calls (W := W) (m := 1) (p := 1) (by omega) (by omega) (by omega) (by omega) (by omega)
 rwa [h11] at this
section
variable {W : World} {b1 b2 b3 b4 : Bool} {A1 A2 A3 A4 : Option Addr} {x1 x2 x3 x4 c1 c2 c3 c4 k : Nat}
theorem qinv {y : Rat} (h1 : Wh W b1 (.slice A1 x1 c1) (1 : Rat).num) (h2 : Wh W b2 (.slice A2 x2 c2) ((1 : Rat).den : Int)) (h3 : Wh W b3 (.slice A3 x3 c3) y.num) (h4 : Wh W b4 (.slice A4 x4 c4) y.den) (ly : Lnq y 300) (h0 : y.num ≠ 0) :
  Calls Tryz.prog 103 #[.agg #[.bool b1, .slice A1 x1 c1, .bool b2, .slice A2 x2 c2], .agg #[.bool b3, .slice A3 x3 c3, .bool b4, .slice A4 x4 c4]] W fun e w' => Below W.heap.size W w' ∧ RR y⁻¹ e w' := by
 have := qquo (x := 1) h1 h2 h3 h4 ln_11 ly h0
 rwa [Rat.div_def, Rat.one_mul] at this
theorem sub_one {z n : Int} (hn : n = z + 1) (h1 : Wh W b1 (.slice A1 x1 c1) n) (h2 : Wh W b2 (.slice A2 x2 c2) 1) (hf : Fits n) (hf' : Fits 1) : Calls Tryz.prog 169 #[.agg #[.bool b1, .slice A1 x1 c1], .agg #[.bool b2, .slice A2 x2 c2]] W fun e w' => Below W.heap.size W w' ∧ RW z e w' := by
 have := sub_calls h1 h2 hf hf'
 rwa [hn, Int.add_sub_cancel] at this
theorem add_one {z n : Int} (hn : n = z + 1) (h1 : Wh W b1 (.slice A1 x1 c1) z) (h2 : Wh W b2 (.slice A2 x2 c2) 1) (hf : Fits z) (hf' : Fits 1) : Calls Tryz.prog 123 #[.agg #[.bool b1, .slice A1 x1 c1], .agg #[.bool b2, .slice A2 x2 c2]] W fun e w' => Below W.heap.size W w' ∧ RW n e w' := by
 have := add_calls h1 h2 hf hf'
 rwa [← hn] at this
end
def sndC : Code → Code | .seq _ b => b | c => c
def fstC : Code → Code | .seq a _ => a | c => c
def tail8 (f : Func) : Code := sndC (sndC (sndC (sndC (sndC (sndC (f.body.getD .skip))))))
theorem Env.bare {w W : World} {rows : List (World → Prop)} {bx : List (Nat × List Value × Nat)} (E : Env w W rows bx) : Env w W [] bx := ⟨E.below, fun _ h => (by cases h), E.bxs⟩
structure Nxt (a y q' : Rat) (f : Int) : Prop where
 LA : Lnq a 112
 LY : Lnq y 112
 LF : Ln f 112
 LQ : Lnq q' 112
 LQI : Lnq q'⁻¹ 112
 NQ : q'.num ≠ 0
 NA : (a - (f : Rat)).num ≠ 0
 NY : (y - (f : Rat)).num ≠ 0
 LYF : Lnq (y - (f : Rat)) 300
 LAF : Lnq (a - (f : Rat)) 300
 IH : ∀ W b1 b2 b3 b4 A1 A2 A3 A4 x1 x2 x3 x4 c1 c2 c3 c4, Wh W b1 (.slice A1 x1 c1) (y - (f : Rat))⁻¹.num → Wh W b2 (.slice A2 x2 c2) (y - (f : Rat))⁻¹.den → Wh W b3 (.slice A3 x3 c3) (a - (f : Rat))⁻¹.num → Wh W b4 (.slice A4 x4 c4) (a - (f : Rat))⁻¹.den →
  Calls Tryz.prog 112 #[.agg #[.bool b1, .slice A1 x1 c1, .bool b2, .slice A2 x2 c2], .agg #[.bool b3, .slice A3 x3 c3, .bool b4, .slice A4 x4 c4, .bool false]] W fun e w' => Below W.heap.size W w' ∧ RR q' e w'
theorem simp_tail9 {W w : World} {a y q' : Rat} {f : Int} (H : Aside0 (Nxt a y q' f)) {Q : Exit → Act → World → Prop} (hQ : Q = bodyPost Tryz.prog Tryz.f112 fun e w' => Below W.heap.size W w' ∧ RR (f + q'⁻¹) e w')
  {g2 g3 g4 g5 g6 g7 g8 : Nat} {b1 b2 b3 b4 b5 b6 b7 b8 b9 b10 b11 : Bool} {A1 A2 A3 A4 A5 A6 A7 A8 A9 A10 A11 : Option Addr} {x1 x2 x3 x4 x5 x6 x7 x8 x9 x10 x11 c1 c2 c3 c4 c5 c6 c7 c8 c9 c10 c11 : Nat}
  {v0 v1 v9 v10 v11 v12 v13 v14 v15 v16 v17 v18 v19 v20 v21 v22 v23 v24 v25 v26 v27 v28 v29 v30 v31 v32 v33 v34 v35 v36 v37 v38 v39 v40 v41 v42 v43 v44 v45 v46 v47 v48 v49 v50 v51 v52 v53 : Value}
  (E : Env W w [] [(g8, [.bool b10, .slice A10 x10 c10, .bool b11, .slice A11 x11 c11], 84), (g7, [.bool b1, .slice A1 x1 c1, .bool b2, .slice A2 x2 c2], 84), (g6, [.bool b3, .slice A3 x3 c3, .bool b4, .slice A4 x4 c4], 84), (g5, [.bool b9, .slice A9 x9 c9], 77), (g4, [.bool false, .slice none 0 0, .bool false, .slice none 0 0], 84), (g3, [.bool b7, .slice A7 x7 c7, .bool b8, .slice A8 x8 c8, .bool false], 108), (g2, [.bool b5, .slice A5 x5 c5, .bool b6, .slice A6 x6 c6], 84)])
  (h1 : Wh w b1 (.slice A1 x1 c1) (1 : Rat).num) (h2 : Wh w b2 (.slice A2 x2 c2) ((1 : Rat).den : Int)) (h3 : Wh w b3 (.slice A3 x3 c3) (f : Rat).num) (h4 : Wh w b4 (.slice A4 x4 c4) ((f : Rat).den : Int)) (h5 : Wh w b10 (.slice A10 x10 c10) q'.num) (h6 : Wh w b11 (.slice A11 x11 c11) q'.den) :
  Code.wp Tryz.prog (sndC (tail8 Tryz.f112)) Q { tmps := #[v0, v1, .pointer (some ⟨g2, 0, none⟩), .pointer (some ⟨g3, 0, none⟩), .pointer (some ⟨g4, 0, none⟩), .pointer (some ⟨g5, 0, none⟩), .pointer (some ⟨g6, 0, none⟩), .pointer (some ⟨g7, 0, none⟩), .pointer (some ⟨g8, 0, none⟩), v9, v10, v11, v12, v13, v14, v15, v16, v17, v18, v19, v20, v21, v22, v23, v24, v25, v26, v27, v28, v29, v30, v31, v32, v33, v34, v35, v36, v37, v38, v39, v40, v41, v42, v43, v44, v45, v46, v47, v48, v49, v50, v51, v52, v53], defers := [] } w := by
 replace E := (((((E.wh h1).wh h2).wh h3).wh h4).wh h5).wh h6
 clear h1 h2 h3 h4 h5 h6
 subst hQ
 dsimp only [tail8, fstC, sndC, Tryz.f112, Option.getD]
 have q := E.cls; (repeat obtain ⟨_, _, q⟩ := q); clear q
 go_wp2_with (first | ((with_reducible refine gate_stored (t := 77) (by rfl) ?_); refine st_ (fun ws hs_ => ?_); replace E := Env.pt2 hs_ E; clear hs_; have q := E.cls; (repeat obtain ⟨_, _, q⟩ := q); clear q) | ((with_reducible refine gate_stored (t := 84) (by rfl) ?_); refine st_ (fun ws hs_ => ?_); replace E := Env.pt4 hs_ E; clear hs_; have q := E.cls; (repeat obtain ⟨_, _, q⟩ := q); clear q) | (refine start_ (id := 9) (n := 6) (S := fun w' => Cls w' _) (ds := [5]) (bz 6 0) (by kernel_rfl) rfl rfl E.draw.cls (fun hH => ?_); replace E := E.draw; refine ta_ 0 (some 49) (bz 6 1) hH ?_; refine ta_ 1 (some 50) (bz 6 3) hH ?_; refine ta_ 2 (some 51) (bz 6 7) hH ?_; refine on_ 3 (some 52) (bz 6 15) (fun K hK => ?_); refine gs_ Tryz.func103 ?_; refine env_call E (qinv E.getW E.getW E.getW E.getW (H.out.LQ.mono (by omega)) H.out.NQ) ?_; clear E; rintro e wc E ⟨br, Ar, nr, cr, br2, Ar2, nr2, cr2, rfl, hw_, hw2_⟩; replace E := (E.wh hw_).wh hw2_; clear hw_ hw2_; refine ⟨_, rfl, ?_⟩; refine hK.out _ _ E.cls (fun hH => ?_); clear hK K; refine nm_ (some 52) ?_; refine on_ 4 (some 53) (bz 6 31) (fun K hK => ?_); refine gs_ Tryz.func115 ?_; refine env_call E (qadd (x := (f : Rat)) (y := q'⁻¹) E.getW E.getW E.getW E.getW (lnq_int (H.out.LF.mono (by omega)) (by omega)) (H.out.LQI.mono (by omega))) ?_; clear E; rintro e wc E ⟨br, Ar, nr, cr, br2, Ar2, nr2, cr2, rfl, hw_, hw2_⟩; replace E := (E.wh hw_).wh hw2_; clear hw_ hw2_; refine ⟨_, rfl, ?_⟩; refine hK.out _ _ E.cls (fun hH => ?_); clear hK K; refine nm_ (some 53) ?_; refine la_ 5 (none) (bz 6 63) (fun K hK => ?_); have q := E.cls; (repeat obtain ⟨_, _, q⟩ := q); clear q; refine sk_ (fun ws hs_ => ?_); replace E := Env.pt4 hs_ E; clear hs_; refine hK.out _ _ ?_; clear hK K; have q := E.cls; (repeat obtain ⟨_, _, q⟩ := q); clear q; refine done_ (by kernel_rfl) ?_; all_goals (have q := E.cls; (repeat obtain ⟨_, _, q⟩ := q); clear q)))
 refine bodyPost_ret (results_single rfl (.cell _ _ _ (0, 0) _ rfl E.blk Tryz.underlying84 rfl (by kernel_rfl) .nil)) rfl ?_
 exact ⟨E.below, RQ.mk E.getW E.getW⟩
theorem simp_tail {W w : World} {a y q' : Rat} {f : Int} (H : Aside0 (Nxt a y q' f)) {K : Act → World → Prop} {Q : Exit → Act → World → Prop} (hQ : Q = bodyPost Tryz.prog Tryz.f112 fun e w' => Below W.heap.size W w' ∧ RR (f + q'⁻¹) e w')
  (hK : ∀ a w, Code.wp Tryz.prog (sndC (tail8 Tryz.f112)) Q a w → K a w) {g2 g3 g4 g5 g6 g7 : Nat}
  {b1 b2 b3 b4 b5 b6 b7 b8 b9 : Bool} {A1 A2 A3 A4 A5 A6 A7 A8 A9 : Option Addr} {x1 x2 x3 x4 x5 x6 x7 x8 x9 c1 c2 c3 c4 c5 c6 c7 c8 c9 : Nat}
  {v0 v1 v8 v9 v10 v11 v12 v13 v14 v15 v16 v17 v18 v19 v20 v21 v22 v23 v24 v25 v26 v27 v28 v29 v30 v31 v32 v33 v34 v35 v36 v37 v38 v39 v40 v41 v42 v43 v44 v45 v46 v47 v48 v49 v50 v51 v52 v53 : Value}
  (E : Env W w [] [(g7, [.bool b1, .slice A1 x1 c1, .bool b2, .slice A2 x2 c2], 84), (g6, [.bool b3, .slice A3 x3 c3, .bool b4, .slice A4 x4 c4], 84), (g5, [.bool b9, .slice A9 x9 c9], 77), (g4, [.bool false, .slice none 0 0, .bool false, .slice none 0 0], 84), (g3, [.bool b7, .slice A7 x7 c7, .bool b8, .slice A8 x8 c8, .bool false], 108), (g2, [.bool b5, .slice A5 x5 c5, .bool b6, .slice A6 x6 c6], 84)])
  (h1 : Wh w b1 (.slice A1 x1 c1) (1 : Rat).num) (h2 : Wh w b2 (.slice A2 x2 c2) ((1 : Rat).den : Int)) (h3 : Wh w b3 (.slice A3 x3 c3) (f : Rat).num) (h4 : Wh w b4 (.slice A4 x4 c4) ((f : Rat).den : Int)) (h5 : Wh w b5 (.slice A5 x5 c5) a.num) (h6 : Wh w b6 (.slice A6 x6 c6) a.den) (h7 : Wh w b7 (.slice A7 x7 c7) y.num) (h8 : Wh w b8 (.slice A8 x8 c8) y.den) :
  Code.wp Tryz.prog (fstC (tail8 Tryz.f112)) (Exit.then K Q) { tmps := #[v0, v1, .pointer (some ⟨g2, 0, none⟩), .pointer (some ⟨g3, 0, none⟩), .pointer (some ⟨g4, 0, none⟩), .pointer (some ⟨g5, 0, none⟩), .pointer (some ⟨g6, 0, none⟩), .pointer (some ⟨g7, 0, none⟩), v8, v9, v10, v11, v12, v13, v14, v15, v16, v17, v18, v19, v20, v21, v22, v23, v24, v25, v26, v27, v28, v29, v30, v31, v32, v33, v34, v35, v36, v37, v38, v39, v40, v41, v42, v43, v44, v45, v46, v47, v48, v49, v50, v51, v52, v53], defers := [] } w := by
 replace E := (((((((E.wh h1).wh h2).wh h3).wh h4).wh h5).wh h6).wh h7).wh h8
 clear h1 h2 h3 h4 h5 h6 h7 h8
 subst hQ
 have hK' : Aside0 (∀ a w, Code.wp Tryz.prog (sndC (tail8 Tryz.f112)) (bodyPost Tryz.prog Tryz.f112 fun e w' => Below W.heap.size W w' ∧ RR (f + q'⁻¹) e w') a w → K a w) := ⟨hK⟩
 clear hK
 dsimp only [tail8, fstC, sndC, Tryz.f112, Option.getD]
 have q := E.cls; (repeat obtain ⟨_, _, q⟩ := q); clear q
 (refine start_ (id := 8) (n := 15) (S := fun w' => Cls w' _) (ds := [14]) (bz 15 0) (by kernel_rfl) rfl rfl E.draw.cls (fun hH => ?_); replace E := E.draw; refine pu_ 1 (some 37) (bz 15 2) ?_; refine ta_ 0 (some 36) (bz 15 3) hH ?_; refine ta_ 2 (some 38) (bz 15 7) hH ?_; refine ta_ 3 (some 39) (bz 15 15) hH ?_; refine ta_ 6 (some 42) (bz 15 79) hH ?_; refine ta_ 7 (some 43) (bz 15 207) hH ?_; refine ta_ 8 (some 44) (bz 15 463) hH ?_; (repeat (any_goals (first | ((with_reducible refine at_ (bz 15 463) ?_); refine two_ (i := 4) (j := 13) (Ni := some 40) (Nj := some 8) (bz 15 479) (bz 15 8655) rfl rfl rfl rfl (by kernel_rfl) (by decide) (by decide) (fun K hK => ?_) (fun K hK => ?_); (focus (refine gs_ Tryz.func101 ?_; refine env_call E (qsub (x := y) (y := (f : Rat)) E.getW E.getW E.getW E.getW (H.out.LY.mono (by omega)) (lnq_int (H.out.LF.mono (by omega)) (by omega))) ?_; clear E; rintro e wc E ⟨br, Ar, nr, cr, br2, Ar2, nr2, cr2, rfl, hw_, hw2_⟩; replace E := (E.wh hw_).wh hw2_; clear hw_ hw2_; refine ⟨_, rfl, ?_⟩; refine hK.out _ _ E.cls (fun hH => ?_); clear hK K; refine nm_ (some 40) ?_)); rotate_left; (focus (refine value_env E (by rfl) rfl ?_; clear E; apply Exists.intro; apply Exists.intro; refine ⟨?_, ?_, fun gb wb E => ?_⟩; (· (first | rfl | (go_simp; done) | (go_simp; rfl))); (· rfl); refine hK.out _ _ (E.clsD 1) (fun hH => ?_); clear hK K; refine nm_ (some 8) ?_)); rotate_left) | ((with_reducible refine at_ (bz 15 479) ?_); refine two_ (i := 5) (j := 13) (Ni := some 41) (Nj := some 8) (bz 15 511) (bz 15 8671) rfl rfl rfl rfl (by kernel_rfl) (by decide) (by decide) (fun K hK => ?_) (fun K hK => ?_); (focus (refine gs_ Tryz.func103 ?_; refine env_call E (qinv (y := y - (f : Rat)) E.getW E.getW E.getW E.getW H.out.LYF H.out.NY) ?_; clear E; rintro e wc E ⟨br, Ar, nr, cr, br2, Ar2, nr2, cr2, rfl, hw_, hw2_⟩; replace E := (E.wh hw_).wh hw2_; clear hw_ hw2_; refine ⟨_, rfl, ?_⟩; refine hK.out _ _ E.cls (fun hH => ?_); clear hK K; refine nm_ (some 41) ?_)); rotate_left; (focus (refine value_env E (by rfl) rfl ?_; clear E; apply Exists.intro; apply Exists.intro; refine ⟨?_, ?_, fun gb wb E => ?_⟩; (· (first | rfl | (go_simp; done) | (go_simp; rfl))); (· rfl); refine hK.out _ _ (E.clsD 1) (fun hH => ?_); clear hK K; refine nm_ (some 8) ?_)); rotate_left) | ((with_reducible refine at_ (bz 15 8655) ?_); refine on_ 4 (some 40) (bz 15 8671) (fun K hK => ?_); refine gs_ Tryz.func101 ?_; refine env_call E (qsub (x := y) (y := (f : Rat)) E.getW E.getW E.getW E.getW (H.out.LY.mono (by omega)) (lnq_int (H.out.LF.mono (by omega)) (by omega))) ?_; clear E; rintro e wc E ⟨br, Ar, nr, cr, br2, Ar2, nr2, cr2, rfl, hw_, hw2_⟩; replace E := (E.wh hw_).wh hw2_; clear hw_ hw2_; refine ⟨_, rfl, ?_⟩; refine hK.out _ _ (E.clsD 1) (fun hH => ?_); clear hK K; refine nm_ (some 40) ?_) | ((with_reducible refine at_ (bz 15 511) ?_); refine two_ (i := 9) (j := 13) (Ni := some 45) (Nj := some 8) (bz 15 1023) (bz 15 8703) rfl rfl rfl rfl (by kernel_rfl) (by decide) (by decide) (fun K hK => ?_) (fun K hK => ?_); (focus (refine gs_ Tryz.func101 ?_; refine env_call E (qsub (x := a) (y := (f : Rat)) E.getW E.getW E.getW E.getW (H.out.LA.mono (by omega)) (lnq_int (H.out.LF.mono (by omega)) (by omega))) ?_; clear E; rintro e wc E ⟨br, Ar, nr, cr, br2, Ar2, nr2, cr2, rfl, hw_, hw2_⟩; replace E := (E.wh hw_).wh hw2_; clear hw_ hw2_; refine ⟨_, rfl, ?_⟩; refine hK.out _ _ E.cls (fun hH => ?_); clear hK K; refine nm_ (some 45) ?_)); rotate_left; (focus (refine value_env E (by rfl) rfl ?_; clear E; apply Exists.intro; apply Exists.intro; refine ⟨?_, ?_, fun gb wb E => ?_⟩; (· (first | rfl | (go_simp; done) | (go_simp; rfl))); (· rfl); refine hK.out _ _ (E.clsD 1) (fun hH => ?_); clear hK K; refine nm_ (some 8) ?_)); rotate_left) | ((with_reducible refine at_ (bz 15 8671) ?_); refine on_ 5 (some 41) (bz 15 8703) (fun K hK => ?_); refine gs_ Tryz.func103 ?_; refine env_call E (qinv (y := y - (f : Rat)) E.getW E.getW E.getW E.getW H.out.LYF H.out.NY) ?_; clear E; rintro e wc E ⟨br, Ar, nr, cr, br2, Ar2, nr2, cr2, rfl, hw_, hw2_⟩; replace E := (E.wh hw_).wh hw2_; clear hw_ hw2_; refine ⟨_, rfl, ?_⟩; refine hK.out _ _ (E.clsD 1) (fun hH => ?_); clear hK K; refine nm_ (some 41) ?_) | ((with_reducible refine at_ (bz 15 1023) ?_); refine two_ (i := 10) (j := 13) (Ni := some 46) (Nj := some 8) (bz 15 2047) (bz 15 9215) rfl rfl rfl rfl (by kernel_rfl) (by decide) (by decide) (fun K hK => ?_) (fun K hK => ?_); (focus (refine gs_ Tryz.func103 ?_; refine env_call E (qinv (y := a - (f : Rat)) E.getW E.getW E.getW E.getW H.out.LAF H.out.NA) ?_; clear E; rintro e wc E ⟨br, Ar, nr, cr, br2, Ar2, nr2, cr2, rfl, hw_, hw2_⟩; replace E := (E.wh hw_).wh hw2_; clear hw_ hw2_; refine ⟨_, rfl, ?_⟩; refine hK.out _ _ E.cls (fun hH => ?_); clear hK K; refine nm_ (some 46) ?_)); rotate_left; (focus (refine value_env E (by rfl) rfl ?_; clear E; apply Exists.intro; apply Exists.intro; refine ⟨?_, ?_, fun gb wb E => ?_⟩; (· (first | rfl | (go_simp; done) | (go_simp; rfl))); (· rfl); refine hK.out _ _ (E.clsD 1) (fun hH => ?_); clear hK K; refine nm_ (some 8) ?_)); rotate_left) | ((with_reducible refine at_ (bz 15 8703) ?_); refine on_ 9 (some 45) (bz 15 9215) (fun K hK => ?_); refine gs_ Tryz.func101 ?_; refine env_call E (qsub (x := a) (y := (f : Rat)) E.getW E.getW E.getW E.getW (H.out.LA.mono (by omega)) (lnq_int (H.out.LF.mono (by omega)) (by omega))) ?_; clear E; rintro e wc E ⟨br, Ar, nr, cr, br2, Ar2, nr2, cr2, rfl, hw_, hw2_⟩; replace E := (E.wh hw_).wh hw2_; clear hw_ hw2_; refine ⟨_, rfl, ?_⟩; refine hK.out _ _ (E.clsD 1) (fun hH => ?_); clear hK K; refine nm_ (some 45) ?_) | ((with_reducible refine at_ (bz 15 2047) ?_); refine pu_ 11 (some 47) (bz 15 4095) ?_) | ((with_reducible refine at_ (bz 15 9215) ?_); refine on_ 10 (some 46) (bz 15 10239) (fun K hK => ?_); refine gs_ Tryz.func103 ?_; refine env_call E (qinv (y := a - (f : Rat)) E.getW E.getW E.getW E.getW H.out.LAF H.out.NA) ?_; clear E; rintro e wc E ⟨br, Ar, nr, cr, br2, Ar2, nr2, cr2, rfl, hw_, hw2_⟩; replace E := (E.wh hw_).wh hw2_; clear hw_ hw2_; refine ⟨_, rfl, ?_⟩; refine hK.out _ _ (E.clsD 1) (fun hH => ?_); clear hK K; refine nm_ (some 46) ?_) | ((with_reducible refine at_ (bz 15 4095) ?_); refine two_ (i := 12) (j := 13) (Ni := some 48) (Nj := some 8) (bz 15 8191) (bz 15 12287) rfl rfl rfl rfl (by kernel_rfl) (by decide) (by decide) (fun K hK => ?_) (fun K hK => ?_); (focus (refine gs_ Tryz.func112 ?_; refine env_call E (H.out.IH _ _ _ _ _ _ _ _ _ _ _ _ _ _ _ _ _ E.getW E.getW E.getW E.getW) ?_; clear E; rintro e wc E ⟨br, Ar, nr, cr, br2, Ar2, nr2, cr2, rfl, hw_, hw2_⟩; replace E := (E.wh hw_).wh hw2_; clear hw_ hw2_; refine ⟨_, rfl, ?_⟩; refine hK.out _ _ E.cls (fun hH => ?_); clear hK K; refine nm_ (some 48) ?_)); rotate_left; (focus (refine value_env E (by rfl) rfl ?_; clear E; apply Exists.intro; apply Exists.intro; refine ⟨?_, ?_, fun gb wb E => ?_⟩; (· (first | rfl | (go_simp; done) | (go_simp; rfl))); (· rfl); refine hK.out _ _ (E.clsD 1) (fun hH => ?_); clear hK K; refine nm_ (some 8) ?_)); rotate_left) | ((with_reducible refine at_ (bz 15 10239) ?_); refine pu_ 11 (some 47) (bz 15 12287) ?_) | ((with_reducible refine at_ (bz 15 8191) ?_); refine on_ 13 (some 8) (bz 15 16383) (fun K hK => ?_); refine value_env E (by rfl) rfl ?_; clear E; apply Exists.intro; apply Exists.intro; refine ⟨?_, ?_, fun gb wb E => ?_⟩; (· (first | rfl | (go_simp; done) | (go_simp; rfl))); (· rfl); refine hK.out _ _ (E.clsD 1) (fun hH => ?_); clear hK K; refine nm_ (some 8) ?_) | ((with_reducible refine at_ (bz 15 12287) ?_); refine on_ 12 (some 48) (bz 15 16383) (fun K hK => ?_); refine gs_ Tryz.func112 ?_; refine env_call E (H.out.IH _ _ _ _ _ _ _ _ _ _ _ _ _ _ _ _ _ E.getW E.getW E.getW E.getW) ?_; clear E; rintro e wc E ⟨br, Ar, nr, cr, br2, Ar2, nr2, cr2, rfl, hw_, hw2_⟩; replace E := (E.wh hw_).wh hw2_; clear hw_ hw2_; refine ⟨_, rfl, ?_⟩; refine hK.out _ _ (E.clsD 1) (fun hH => ?_); clear hK K; refine nm_ (some 48) ?_) | ((with_reducible refine at_ (bz 15 16383) ?_); refine la_ 14 (none) (bz 15 32767) (fun K hK => ?_); have q := E.cls; (repeat obtain ⟨_, _, q⟩ := q); clear q; refine sk_ (fun ws hs_ => ?_); replace E := Env.pt4 hs_ E; clear hs_; refine hK.out _ _ ?_; clear hK K; have q := E.cls; (repeat obtain ⟨_, _, q⟩ := q); clear q) | ((with_reducible refine at_ (bz 15 32767) ?_); refine done_ (by kernel_rfl) ?_)))); all_goals (have q := E.cls; (repeat obtain ⟨_, _, q⟩ := q); clear q))
 all_goals exact hK'.out _ _ (simp_tail9 H rfl E.bare E.getW E.getW E.getW E.getW E.getW E.getW)
theorem simplest_some {M : Nat} (hM : Ln (M : Int) 112) : ∀ (m : Nat) {W : World} {b1 b2 b3 b4 : Bool} {A1 A2 A3 A4 : Option Addr} {x1 x2 x3 x4 c1 c2 c3 c4 : Nat} {a y : Rat}, a.den + y.den ≤ m →
  Wh W b1 (.slice A1 x1 c1) a.num → Wh W b2 (.slice A2 x2 c2) a.den → Wh W b3 (.slice A3 x3 c3) y.num → Wh W b4 (.slice A4 x4 c4) y.den → LeM a M → LeM y M → 0 < a → a ≤ y → ∀ {q : Rat}, SP a (some y) q →
  Calls Tryz.prog 112 #[.agg #[.bool b1, .slice A1 x1 c1, .bool b2, .slice A2 x2 c2], .agg #[.bool b3, .slice A3 x3 c3, .bool b4, .slice A4 x4 c4, .bool false]] W fun e w' => Below W.heap.size W w' ∧ RR q e w' := by
 intro m
 induction m with
 |zero => intro W b1 b2 b3 b4 A1 A2 A3 A4 x1 x2 x3 x4 c1 c2 c3 c4 a y h; exact absurd h (by have := a.den_nz; omega)
 |succ m ih =>
  intro W b1 b2 b3 b4 A1 A2 A3 A4 x1 x2 x3 x4 c1 c2 c3 c4 a y hm h1 h2 h3 h4 la ly ha hay q hq
  have E := ((((Env.start W).wh h1).wh h2).wh h3).wh h4
  have LA := Aside0.mk (la.ln hM)
  have LY := Aside0.mk (ly.ln hM)
  have LF := Aside0.mk (ln_fl (la.ln hM))
  clear h1 h2 h3 h4
  by_cases c : (a.floor : Rat) < a
  ·have hc : decide (scmp a.floor a < 0) = true := decide_eq_true ((scmp_lt _ _).2 c)
   obtain ⟨n, hn⟩ : ∃ n, n = a.floor + 1 := ⟨_, rfl⟩
   have HN := Aside0.mk hn
   have LFN := Aside0.mk (show Ln n 113 by rw [hn]; exact LF.out.add (ln_one.mono (by omega)))
   by_cases d : ((n : Int) : Rat) ≤ y
   ·have hd : decide (scmp ((n : Int) : Rat) y ≤ 0) = true := decide_eq_true ((scmp_le _ _).2 d)
    obtain rfl : q = ((n : Int) : Rat) := sp_uniq ha hq (hn ▸ sp_ceil ha c (fun x hx => by cases hx; exact hn ▸ d))
    clear c d hq ha hay la ly hm ih hM hn
    go_enter Tryz.func112, Tryz.ntmps112
    go_wp2_with (first | ((with_reducible first | refine gate_box (by rfl) ?_ | refine gate_alloc (by rfl) ?_); refine bx_ E ?_; clear E; intro gb wb E; have q := E.cls; (repeat obtain ⟨_, _, q⟩ := q); clear q) | (go_at_call 124; refine env_call E (qfloor E.getW E.getW (LA.out.mono (by omega))) ?_; clear E; rintro e wc E ⟨br, Ar, nr, cr, rfl, hw_⟩; replace E := E.wh hw_; clear hw_; have q := E.cls; (repeat obtain ⟨_, _, q⟩ := q); clear q) | ((with_reducible refine gate_stored (t := 77) (by rfl) ?_); refine st_ (fun ws hs_ => ?_); replace E := Env.pt2 hs_ E; clear hs_; have q := E.cls; (repeat obtain ⟨_, _, q⟩ := q); clear q) | ((with_reducible refine gate_stored (t := 84) (by rfl) ?_); refine st_ (fun ws hs_ => ?_); replace E := Env.pt4 hs_ E; clear hs_; have q := E.cls; (repeat obtain ⟨_, _, q⟩ := q); clear q) | (refine start_ (id := 2) (n := 5) (S := fun w' => Cls w' _) (ds := []) (bz 5 0) (by kernel_rfl) rfl rfl E.draw.cls (fun hH => ?_); replace E := E.draw; refine ta_ 0 (some 11) (bz 5 1) hH ?_; refine ta_ 2 (some 13) (bz 5 5) hH ?_; refine on_ 1 (some 12) (bz 5 7) (fun K hK => ?_); refine gs_ Tryz.func168 ?_; refine env_call E (rint_calls E.getW (LF.out.fits (by omega))) ?_; clear E; rintro e wc E ⟨br, Ar, nr, cr, br2, Ar2, nr2, cr2, rfl, hw_, hw2_⟩; replace E := (E.wh hw_).wh hw2_; clear hw_ hw2_; refine ⟨_, rfl, ?_⟩; refine hK.out _ _ E.cls (fun hH => ?_); clear hK K; refine nm_ (some 12) ?_; refine on_ 3 (some 14) (bz 5 15) (fun K hK => ?_); refine gs_ Tryz.func167 ?_; refine env_call E (qcmp (x := (a.floor : Rat)) (y := a) E.getW E.getW E.getW E.getW (lnq_int (LF.out.mono (by omega)) (by omega)) (LA.out.mono (by omega))) ?_; clear E; rintro e wc E rfl; refine ⟨_, rfl, ?_⟩; refine hK.out _ _ E.cls (fun hH => ?_); clear hK K; refine nm_ (some 14) ?_; refine pu_ 4 (some 15) (bz 5 31) ?_; refine done_ (by kernel_rfl) ?_; all_goals (have q := E.cls; (repeat obtain ⟨_, _, q⟩ := q); clear q)) | (refine start_ (id := 3) (n := 4) (S := fun w' => Cls w' _) (ds := [3]) (bz 4 0) (by kernel_rfl) rfl rfl E.draw.cls (fun hH => ?_); replace E := E.draw; refine ta_ 0 (some 16) (bz 4 1) hH ?_; refine on_ 1 (some 17) (bz 4 3) (fun K hK => ?_); refine gs_ Tryz.func121 ?_; refine env_call E (of_calls (n := 1) (by omega) (by omega)) ?_; clear E; rintro e wc E ⟨br, Ar, nr, cr, rfl, hw_⟩; replace E := E.wh hw_; clear hw_; refine ⟨_, rfl, ?_⟩; refine hK.out _ _ E.cls (fun hH => ?_); clear hK K; refine nm_ (some 17) ?_; refine on_ 2 (some 18) (bz 4 7) (fun K hK => ?_); refine gs_ Tryz.func123 ?_; refine env_call E (add_one HN.out E.getW E.getW (LF.out.fits (by omega)) (ln_one.fits (by omega))) ?_; clear E; rintro e wc E ⟨br, Ar, nr, cr, rfl, hw_⟩; replace E := E.wh hw_; clear hw_; refine ⟨_, rfl, ?_⟩; refine hK.out _ _ E.cls (fun hH => ?_); clear hK K; refine nm_ (some 18) ?_; refine la_ 3 (none) (bz 4 15) (fun K hK => ?_); have q := E.cls; (repeat obtain ⟨_, _, q⟩ := q); clear q; refine sk_ (fun ws hs_ => ?_); replace E := Env.pt2 hs_ E; clear hs_; refine hK.out _ _ ?_; clear hK K; have q := E.cls; (repeat obtain ⟨_, _, q⟩ := q); clear q; refine done_ (by kernel_rfl) ?_; all_goals (have q := E.cls; (repeat obtain ⟨_, _, q⟩ := q); clear q)) | (refine start_ (id := 4) (n := 10) (S := fun w' => Cls w' _) (ds := []) (bz 10 0) (by kernel_rfl) rfl rfl E.draw.cls (fun hH => ?_); replace E := E.draw; refine pu_ 0 (some 19) (bz 10 1) ?_; refine ta_ 1 (some 20) (bz 10 3) hH ?_; refine pu_ 2 (some 21) (bz 10 7) ?_; (first | (refine pu_ 5 (some 24) (bz 10 39) ?_) | (refine po_ 5 (some 24) (bz 10 39) ?_)); (first | (refine ta_ 3 (some 22) (bz 10 47) hH ?_) | (refine po_ 3 (some 22) (bz 10 47) ?_)); (first | (refine ta_ 6 (some 25) (bz 10 111) hH ?_) | (refine po_ 6 (some 25) (bz 10 111) ?_)); refine on_ 4 (some 23) (bz 10 127) (fun K hK => ?_); (first | (refine off_ (by rfl) ?_; refine hK.out _ _ E.cls (fun hH => ?_); clear hK K) | (refine gs_ Tryz.func168 ?_; refine env_call E (rint_calls (z := n) E.getW (LFN.out.fits (by omega))) ?_; clear E; rintro e wc E ⟨br, Ar, nr, cr, br2, Ar2, nr2, cr2, rfl, hw_, hw2_⟩; replace E := (E.wh hw_).wh hw2_; clear hw_ hw2_; refine ⟨_, rfl, ?_⟩; refine hK.out _ _ E.cls (fun hH => ?_); clear hK K)); refine nm_ (some 23) ?_; refine on_ 7 (some 26) (bz 10 255) (fun K hK => ?_); (first | (refine off_ (by rfl) ?_; refine hK.out _ _ E.cls (fun hH => ?_); clear hK K) | (refine gs_ Tryz.func167 ?_; refine env_call E (qcmp (x := ((n : Int) : Rat)) (y := y) E.getW E.getW E.getW E.getW (lnq_int (LFN.out.mono (by omega)) (by omega)) (LY.out.mono (by omega))) ?_; clear E; rintro e wc E rfl; refine ⟨_, rfl, ?_⟩; refine hK.out _ _ E.cls (fun hH => ?_); clear hK K)); refine nm_ (some 26) ?_; (first | (refine pu_ 8 (some 27) (bz 10 511) ?_) | (refine po_ 8 (some 27) (bz 10 511) ?_)); refine pu_ 9 (some 28) (bz 10 1023) ?_; refine done_ (by kernel_rfl) ?_; all_goals (have q := E.cls; (repeat obtain ⟨_, _, q⟩ := q); clear q)) | (go_at_call 168; refine env_call E (rint_calls (z := n) E.getW (LFN.out.fits (by omega))) ?_; clear E; rintro e wc E ⟨br, Ar, nr, cr, br2, Ar2, nr2, cr2, rfl, hw_, hw2_⟩; replace E := (E.wh hw_).wh hw2_; clear hw_ hw2_; have q := E.cls; (repeat obtain ⟨_, _, q⟩ := q); clear q))
    refine bodyPost_ret (results_single rfl (.cell _ _ _ (0, 0) _ rfl E.blk Tryz.underlying84 rfl (by kernel_rfl) .nil)) rfl ?_
    exact ⟨E.below, RQ.mk E.getW E.getW⟩
   ·have hd : decide (scmp ((n : Int) : Rat) y ≤ 0) = false := decide_eq_false (fun h => d ((scmp_le _ _).1 h))
    have hb : y < ((a.floor + 1 : Int) : Rat) := by rw [← hn]; grind
    have fb : (a.floor : Rat) < y := by grind
    have s1 := sp_less c (Rat.lt_floor_add_one a)
    have s2 := sp_less fb hb
    have pa := rsub_pos c
    have pb := rsub_pos fb
    have hle := rinv_anti pa (show a - (a.floor : Rat) ≤ y - a.floor by grind)
    obtain ⟨q', hq'⟩ := sp_ex m (y - a.floor)⁻¹ (a - a.floor)⁻¹ (by omega) (Rat.inv_pos.2 pb) hle
    obtain rfl : q = a.floor + q'⁻¹ := sp_uniq ha hq (sp_step (floor_nonneg ha) c hay hq')
    have hm1 := hq'.2 _ ⟨Rat.le_refl, fun x hx => by cases hx; exact hle⟩
    have la' : LeM (a - a.floor)⁻¹ M := ⟨by rw [s1.1]; have := la.2; omega, by have := la.2; omega⟩
    have ly' : LeM (y - a.floor)⁻¹ M := ⟨by rw [s2.1]; have := ly.2; omega, by have := ly.2; omega⟩
    have lq' : LeM q' M := ⟨Nat.le_trans hm1.2 ly'.1, Nat.le_trans hm1.1 ly'.2⟩
    have pq : 0 < q' := by have := hq'.1.1; have := Rat.inv_pos.2 pb; grind
    have nq := rnd_inv pq
    have lqi : LeM q'⁻¹ M := ⟨by rw [nq.1]; have := lq'.2; omega, by have := lq'.1; have := nq.2.1; omega⟩
    have NX := Aside0.mk (show Nxt a y q' a.floor from ⟨LA.out, LY.out, LF.out, lq'.ln hM, lqi.ln hM, by have := nq.2.2; omega, by have := rnum_pos pa; omega, by have := rnum_pos pb; omega,
     (lnq_sub LY.out (lnq_int LF.out (by omega))).mono (by omega), (lnq_sub LA.out (lnq_int LF.out (by omega))).mono (by omega), fun W b1 b2 b3 b4 A1 A2 A3 A4 x1 x2 x3 x4 c1 c2 c3 c4 h1 h2 h3 h4 => ih (a := (y - a.floor)⁻¹) (y := (a - a.floor)⁻¹) (by omega) h1 h2 h3 h4 ly' la' (Rat.inv_pos.2 pb) hle hq'⟩)
    clear c d hq ha hay la ly hm ih hM hn hb fb s1 s2 pa pb hle hq' hm1 la' ly' lq' pq nq lqi
    go_enter Tryz.func112, Tryz.ntmps112
    go_wp2_with (first | ((with_reducible first | refine gate_box (by rfl) ?_ | refine gate_alloc (by rfl) ?_); refine bx_ E ?_; clear E; intro gb wb E; have q := E.cls; (repeat obtain ⟨_, _, q⟩ := q); clear q) | (go_at_call 124; refine env_call E (qfloor E.getW E.getW (LA.out.mono (by omega))) ?_; clear E; rintro e wc E ⟨br, Ar, nr, cr, rfl, hw_⟩; replace E := E.wh hw_; clear hw_; have q := E.cls; (repeat obtain ⟨_, _, q⟩ := q); clear q) | ((with_reducible refine gate_stored (t := 77) (by rfl) ?_); refine st_ (fun ws hs_ => ?_); replace E := Env.pt2 hs_ E; clear hs_; have q := E.cls; (repeat obtain ⟨_, _, q⟩ := q); clear q) | ((with_reducible refine gate_stored (t := 84) (by rfl) ?_); refine st_ (fun ws hs_ => ?_); replace E := Env.pt4 hs_ E; clear hs_; have q := E.cls; (repeat obtain ⟨_, _, q⟩ := q); clear q) | (refine start_ (id := 2) (n := 5) (S := fun w' => Cls w' _) (ds := []) (bz 5 0) (by kernel_rfl) rfl rfl E.draw.cls (fun hH => ?_); replace E := E.draw; refine ta_ 0 (some 11) (bz 5 1) hH ?_; refine ta_ 2 (some 13) (bz 5 5) hH ?_; refine on_ 1 (some 12) (bz 5 7) (fun K hK => ?_); refine gs_ Tryz.func168 ?_; refine env_call E (rint_calls E.getW (LF.out.fits (by omega))) ?_; clear E; rintro e wc E ⟨br, Ar, nr, cr, br2, Ar2, nr2, cr2, rfl, hw_, hw2_⟩; replace E := (E.wh hw_).wh hw2_; clear hw_ hw2_; refine ⟨_, rfl, ?_⟩; refine hK.out _ _ E.cls (fun hH => ?_); clear hK K; refine nm_ (some 12) ?_; refine on_ 3 (some 14) (bz 5 15) (fun K hK => ?_); refine gs_ Tryz.func167 ?_; refine env_call E (qcmp (x := (a.floor : Rat)) (y := a) E.getW E.getW E.getW E.getW (lnq_int (LF.out.mono (by omega)) (by omega)) (LA.out.mono (by omega))) ?_; clear E; rintro e wc E rfl; refine ⟨_, rfl, ?_⟩; refine hK.out _ _ E.cls (fun hH => ?_); clear hK K; refine nm_ (some 14) ?_; refine pu_ 4 (some 15) (bz 5 31) ?_; refine done_ (by kernel_rfl) ?_; all_goals (have q := E.cls; (repeat obtain ⟨_, _, q⟩ := q); clear q)) | (refine start_ (id := 3) (n := 4) (S := fun w' => Cls w' _) (ds := [3]) (bz 4 0) (by kernel_rfl) rfl rfl E.draw.cls (fun hH => ?_); replace E := E.draw; refine ta_ 0 (some 16) (bz 4 1) hH ?_; refine on_ 1 (some 17) (bz 4 3) (fun K hK => ?_); refine gs_ Tryz.func121 ?_; refine env_call E (of_calls (n := 1) (by omega) (by omega)) ?_; clear E; rintro e wc E ⟨br, Ar, nr, cr, rfl, hw_⟩; replace E := E.wh hw_; clear hw_; refine ⟨_, rfl, ?_⟩; refine hK.out _ _ E.cls (fun hH => ?_); clear hK K; refine nm_ (some 17) ?_; refine on_ 2 (some 18) (bz 4 7) (fun K hK => ?_); refine gs_ Tryz.func123 ?_; refine env_call E (add_one HN.out E.getW E.getW (LF.out.fits (by omega)) (ln_one.fits (by omega))) ?_; clear E; rintro e wc E ⟨br, Ar, nr, cr, rfl, hw_⟩; replace E := E.wh hw_; clear hw_; refine ⟨_, rfl, ?_⟩; refine hK.out _ _ E.cls (fun hH => ?_); clear hK K; refine nm_ (some 18) ?_; refine la_ 3 (none) (bz 4 15) (fun K hK => ?_); have q := E.cls; (repeat obtain ⟨_, _, q⟩ := q); clear q; refine sk_ (fun ws hs_ => ?_); replace E := Env.pt2 hs_ E; clear hs_; refine hK.out _ _ ?_; clear hK K; have q := E.cls; (repeat obtain ⟨_, _, q⟩ := q); clear q; refine done_ (by kernel_rfl) ?_; all_goals (have q := E.cls; (repeat obtain ⟨_, _, q⟩ := q); clear q)) | (refine start_ (id := 4) (n := 10) (S := fun w' => Cls w' _) (ds := []) (bz 10 0) (by kernel_rfl) rfl rfl E.draw.cls (fun hH => ?_); replace E := E.draw; refine pu_ 0 (some 19) (bz 10 1) ?_; refine ta_ 1 (some 20) (bz 10 3) hH ?_; refine pu_ 2 (some 21) (bz 10 7) ?_; (first | (refine pu_ 5 (some 24) (bz 10 39) ?_) | (refine po_ 5 (some 24) (bz 10 39) ?_)); (first | (refine ta_ 3 (some 22) (bz 10 47) hH ?_) | (refine po_ 3 (some 22) (bz 10 47) ?_)); (first | (refine ta_ 6 (some 25) (bz 10 111) hH ?_) | (refine po_ 6 (some 25) (bz 10 111) ?_)); refine on_ 4 (some 23) (bz 10 127) (fun K hK => ?_); (first | (refine off_ (by rfl) ?_; refine hK.out _ _ E.cls (fun hH => ?_); clear hK K) | (refine gs_ Tryz.func168 ?_; refine env_call E (rint_calls (z := n) E.getW (LFN.out.fits (by omega))) ?_; clear E; rintro e wc E ⟨br, Ar, nr, cr, br2, Ar2, nr2, cr2, rfl, hw_, hw2_⟩; replace E := (E.wh hw_).wh hw2_; clear hw_ hw2_; refine ⟨_, rfl, ?_⟩; refine hK.out _ _ E.cls (fun hH => ?_); clear hK K)); refine nm_ (some 23) ?_; refine on_ 7 (some 26) (bz 10 255) (fun K hK => ?_); (first | (refine off_ (by rfl) ?_; refine hK.out _ _ E.cls (fun hH => ?_); clear hK K) | (refine gs_ Tryz.func167 ?_; refine env_call E (qcmp (x := ((n : Int) : Rat)) (y := y) E.getW E.getW E.getW E.getW (lnq_int (LFN.out.mono (by omega)) (by omega)) (LY.out.mono (by omega))) ?_; clear E; rintro e wc E rfl; refine ⟨_, rfl, ?_⟩; refine hK.out _ _ E.cls (fun hH => ?_); clear hK K)); refine nm_ (some 26) ?_; (first | (refine pu_ 8 (some 27) (bz 10 511) ?_) | (refine po_ 8 (some 27) (bz 10 511) ?_)); refine pu_ 9 (some 28) (bz 10 1023) ?_; refine done_ (by kernel_rfl) ?_; all_goals (have q := E.cls; (repeat obtain ⟨_, _, q⟩ := q); clear q)) | (refine start_ (id := 6) (n := 6) (S := fun w' => Cls w' _) (ds := [5]) (bz 6 0) (by kernel_rfl) rfl rfl E.draw.cls (fun hH => ?_); replace E := E.draw; refine ta_ 0 (some 31) (bz 6 1) hH ?_; (repeat (any_goals (first | ((with_reducible refine at_ (bz 6 1) ?_); refine two_ (i := 1) (j := 4) (Ni := some 32) (Nj := some 6) (bz 6 3) (bz 6 17) rfl rfl rfl rfl (by kernel_rfl) (by decide) (by decide) (fun K hK => ?_) (fun K hK => ?_); (focus (refine gs_ Tryz.func121 ?_; refine env_call E (of_calls (n := 1) (by omega) (by omega)) ?_; clear E; rintro e wc E ⟨br, Ar, nr, cr, rfl, hw_⟩; replace E := E.wh hw_; clear hw_; refine ⟨_, rfl, ?_⟩; refine hK.out _ _ E.cls (fun hH => ?_); clear hK K; refine nm_ (some 32) ?_)); rotate_left; (focus (refine value_env E (by rfl) rfl ?_; clear E; apply Exists.intro; apply Exists.intro; refine ⟨?_, ?_, fun gb wb E => ?_⟩; (· (first | rfl | (go_simp; done) | (go_simp; rfl))); (· rfl); refine hK.out _ _ (E.clsD 1) (fun hH => ?_); clear hK K; refine nm_ (some 6) ?_)); rotate_left) | ((with_reducible refine at_ (bz 6 3) ?_); refine two_ (i := 2) (j := 4) (Ni := some 33) (Nj := some 6) (bz 6 7) (bz 6 19) rfl rfl rfl rfl (by kernel_rfl) (by decide) (by decide) (fun K hK => ?_) (fun K hK => ?_); (focus (refine gs_ Tryz.func169 ?_; refine env_call E (sub_one HN.out E.getW E.getW (LFN.out.fits (by omega)) (ln_one.fits (by omega))) ?_; clear E; rintro e wc E ⟨br, Ar, nr, cr, rfl, hw_⟩; replace E := E.wh hw_; clear hw_; refine ⟨_, rfl, ?_⟩; refine hK.out _ _ E.cls (fun hH => ?_); clear hK K; refine nm_ (some 33) ?_)); rotate_left; (focus (refine value_env E (by rfl) rfl ?_; clear E; apply Exists.intro; apply Exists.intro; refine ⟨?_, ?_, fun gb wb E => ?_⟩; (· (first | rfl | (go_simp; done) | (go_simp; rfl))); (· rfl); refine hK.out _ _ (E.clsD 1) (fun hH => ?_); clear hK K; refine nm_ (some 6) ?_)); rotate_left) | ((with_reducible refine at_ (bz 6 17) ?_); refine on_ 1 (some 32) (bz 6 19) (fun K hK => ?_); refine gs_ Tryz.func121 ?_; refine env_call E (of_calls (n := 1) (by omega) (by omega)) ?_; clear E; rintro e wc E ⟨br, Ar, nr, cr, rfl, hw_⟩; replace E := E.wh hw_; clear hw_; refine ⟨_, rfl, ?_⟩; refine hK.out _ _ (E.clsD 1) (fun hH => ?_); clear hK K; refine nm_ (some 32) ?_) | ((with_reducible refine at_ (bz 6 7) ?_); refine two_ (i := 3) (j := 4) (Ni := some 34) (Nj := some 6) (bz 6 15) (bz 6 23) rfl rfl rfl rfl (by kernel_rfl) (by decide) (by decide) (fun K hK => ?_) (fun K hK => ?_); (focus (refine gs_ Tryz.func168 ?_; refine env_call E (rint_calls (z := a.floor) E.getW (LF.out.fits (by omega))) ?_; clear E; rintro e wc E ⟨br, Ar, nr, cr, br2, Ar2, nr2, cr2, rfl, hw_, hw2_⟩; replace E := (E.wh hw_).wh hw2_; clear hw_ hw2_; refine ⟨_, rfl, ?_⟩; refine hK.out _ _ E.cls (fun hH => ?_); clear hK K; refine nm_ (some 34) ?_)); rotate_left; (focus (refine value_env E (by rfl) rfl ?_; clear E; apply Exists.intro; apply Exists.intro; refine ⟨?_, ?_, fun gb wb E => ?_⟩; (· (first | rfl | (go_simp; done) | (go_simp; rfl))); (· rfl); refine hK.out _ _ (E.clsD 1) (fun hH => ?_); clear hK K; refine nm_ (some 6) ?_)); rotate_left) | ((with_reducible refine at_ (bz 6 19) ?_); refine on_ 2 (some 33) (bz 6 23) (fun K hK => ?_); refine gs_ Tryz.func169 ?_; refine env_call E (sub_one HN.out E.getW E.getW (LFN.out.fits (by omega)) (ln_one.fits (by omega))) ?_; clear E; rintro e wc E ⟨br, Ar, nr, cr, rfl, hw_⟩; replace E := E.wh hw_; clear hw_; refine ⟨_, rfl, ?_⟩; refine hK.out _ _ (E.clsD 1) (fun hH => ?_); clear hK K; refine nm_ (some 33) ?_) | ((with_reducible refine at_ (bz 6 15) ?_); refine on_ 4 (some 6) (bz 6 31) (fun K hK => ?_); refine value_env E (by rfl) rfl ?_; clear E; apply Exists.intro; apply Exists.intro; refine ⟨?_, ?_, fun gb wb E => ?_⟩; (· (first | rfl | (go_simp; done) | (go_simp; rfl))); (· rfl); refine hK.out _ _ (E.clsD 1) (fun hH => ?_); clear hK K; refine nm_ (some 6) ?_) | ((with_reducible refine at_ (bz 6 23) ?_); refine on_ 3 (some 34) (bz 6 31) (fun K hK => ?_); refine gs_ Tryz.func168 ?_; refine env_call E (rint_calls (z := a.floor) E.getW (LF.out.fits (by omega))) ?_; clear E; rintro e wc E ⟨br, Ar, nr, cr, br2, Ar2, nr2, cr2, rfl, hw_, hw2_⟩; replace E := (E.wh hw_).wh hw2_; clear hw_ hw2_; refine ⟨_, rfl, ?_⟩; refine hK.out _ _ (E.clsD 1) (fun hH => ?_); clear hK K; refine nm_ (some 34) ?_) | ((with_reducible refine at_ (bz 6 31) ?_); refine la_ 5 (none) (bz 6 63) (fun K hK => ?_); have q := E.cls; (repeat obtain ⟨_, _, q⟩ := q); clear q; refine sk_ (fun ws hs_ => ?_); replace E := Env.pt4 hs_ E; clear hs_; refine hK.out _ _ ?_; clear hK K; have q := E.cls; (repeat obtain ⟨_, _, q⟩ := q); clear q) | ((with_reducible refine at_ (bz 6 63) ?_); refine done_ (by kernel_rfl) ?_)))); all_goals (have q := E.cls; (repeat obtain ⟨_, _, q⟩ := q); clear q)) | (go_at_call 116; refine env_call E (frac_one) ?_; clear E; rintro e wc E ⟨br, Ar, nr, cr, br2, Ar2, nr2, cr2, rfl, hw_, hw2_⟩; replace E := (E.wh hw_).wh hw2_; clear hw_ hw2_; have q := E.cls; (repeat obtain ⟨_, _, q⟩ := q); clear q) | (refine simp_tail (a := a) (y := y) (q' := q') (f := a.floor) NX rfl (by assumption) E.bare E.getW E.getW E.getW E.getW E.getW E.getW E.getW E.getW))
  ·have hc : decide (scmp a.floor a < 0) = false := decide_eq_false (fun h => c ((scmp_lt _ _).1 h))
   have e : (a.floor : Rat) = a := by have := floor_le a; grind
   have hd : decide (scmp (a.floor : Rat) y ≤ 0) = true := decide_eq_true ((scmp_le _ _).2 (by rw [e]; exact hay))
   obtain rfl : q = (a.floor : Rat) := sp_uniq ha hq (sp_floor ha c (fun x hx => by cases hx; exact hay))
   clear c hq ha hay la ly hm ih hM e
   go_enter Tryz.func112, Tryz.ntmps112
   go_wp2_with (first | ((with_reducible first | refine gate_box (by rfl) ?_ | refine gate_alloc (by rfl) ?_); refine bx_ E ?_; clear E; intro gb wb E; have q := E.cls; (repeat obtain ⟨_, _, q⟩ := q); clear q) | (go_at_call 124; refine env_call E (qfloor E.getW E.getW (LA.out.mono (by omega))) ?_; clear E; rintro e wc E ⟨br, Ar, nr, cr, rfl, hw_⟩; replace E := E.wh hw_; clear hw_; have q := E.cls; (repeat obtain ⟨_, _, q⟩ := q); clear q) | ((with_reducible refine gate_stored (t := 77) (by rfl) ?_); refine st_ (fun ws hs_ => ?_); replace E := Env.pt2 hs_ E; clear hs_; have q := E.cls; (repeat obtain ⟨_, _, q⟩ := q); clear q) | ((with_reducible refine gate_stored (t := 84) (by rfl) ?_); refine st_ (fun ws hs_ => ?_); replace E := Env.pt4 hs_ E; clear hs_; have q := E.cls; (repeat obtain ⟨_, _, q⟩ := q); clear q) | (refine start_ (id := 2) (n := 5) (S := fun w' => Cls w' _) (ds := []) (bz 5 0) (by kernel_rfl) rfl rfl E.draw.cls (fun hH => ?_); replace E := E.draw; refine ta_ 0 (some 11) (bz 5 1) hH ?_; refine ta_ 2 (some 13) (bz 5 5) hH ?_; refine on_ 1 (some 12) (bz 5 7) (fun K hK => ?_); refine gs_ Tryz.func168 ?_; refine env_call E (rint_calls E.getW (LF.out.fits (by omega))) ?_; clear E; rintro e wc E ⟨br, Ar, nr, cr, br2, Ar2, nr2, cr2, rfl, hw_, hw2_⟩; replace E := (E.wh hw_).wh hw2_; clear hw_ hw2_; refine ⟨_, rfl, ?_⟩; refine hK.out _ _ E.cls (fun hH => ?_); clear hK K; refine nm_ (some 12) ?_; refine on_ 3 (some 14) (bz 5 15) (fun K hK => ?_); refine gs_ Tryz.func167 ?_; refine env_call E (qcmp (x := (a.floor : Rat)) (y := a) E.getW E.getW E.getW E.getW (lnq_int (LF.out.mono (by omega)) (by omega)) (LA.out.mono (by omega))) ?_; clear E; rintro e wc E rfl; refine ⟨_, rfl, ?_⟩; refine hK.out _ _ E.cls (fun hH => ?_); clear hK K; refine nm_ (some 14) ?_; refine pu_ 4 (some 15) (bz 5 31) ?_; refine done_ (by kernel_rfl) ?_; all_goals (have q := E.cls; (repeat obtain ⟨_, _, q⟩ := q); clear q)) | (refine start_ (id := 4) (n := 10) (S := fun w' => Cls w' _) (ds := []) (bz 10 0) (by kernel_rfl) rfl rfl E.draw.cls (fun hH => ?_); replace E := E.draw; refine pu_ 0 (some 19) (bz 10 1) ?_; refine ta_ 1 (some 20) (bz 10 3) hH ?_; refine pu_ 2 (some 21) (bz 10 7) ?_; (first | (refine pu_ 5 (some 24) (bz 10 39) ?_) | (refine po_ 5 (some 24) (bz 10 39) ?_)); (first | (refine ta_ 3 (some 22) (bz 10 47) hH ?_) | (refine po_ 3 (some 22) (bz 10 47) ?_)); (first | (refine ta_ 6 (some 25) (bz 10 111) hH ?_) | (refine po_ 6 (some 25) (bz 10 111) ?_)); refine on_ 4 (some 23) (bz 10 127) (fun K hK => ?_); (first | (refine off_ (by rfl) ?_; refine hK.out _ _ E.cls (fun hH => ?_); clear hK K) | (refine gs_ Tryz.func168 ?_; refine env_call E (rint_calls (z := a.floor) E.getW (LF.out.fits (by omega))) ?_; clear E; rintro e wc E ⟨br, Ar, nr, cr, br2, Ar2, nr2, cr2, rfl, hw_, hw2_⟩; replace E := (E.wh hw_).wh hw2_; clear hw_ hw2_; refine ⟨_, rfl, ?_⟩; refine hK.out _ _ E.cls (fun hH => ?_); clear hK K)); refine nm_ (some 23) ?_; refine on_ 7 (some 26) (bz 10 255) (fun K hK => ?_); (first | (refine off_ (by rfl) ?_; refine hK.out _ _ E.cls (fun hH => ?_); clear hK K) | (refine gs_ Tryz.func167 ?_; refine env_call E (qcmp (x := ((a.floor : Int) : Rat)) (y := y) E.getW E.getW E.getW E.getW (lnq_int (LF.out.mono (by omega)) (by omega)) (LY.out.mono (by omega))) ?_; clear E; rintro e wc E rfl; refine ⟨_, rfl, ?_⟩; refine hK.out _ _ E.cls (fun hH => ?_); clear hK K)); refine nm_ (some 26) ?_; (first | (refine pu_ 8 (some 27) (bz 10 511) ?_) | (refine po_ 8 (some 27) (bz 10 511) ?_)); refine pu_ 9 (some 28) (bz 10 1023) ?_; refine done_ (by kernel_rfl) ?_; all_goals (have q := E.cls; (repeat obtain ⟨_, _, q⟩ := q); clear q)) | (go_at_call 168; refine env_call E (rint_calls (z := a.floor) E.getW (LF.out.fits (by omega))) ?_; clear E; rintro e wc E ⟨br, Ar, nr, cr, br2, Ar2, nr2, cr2, rfl, hw_, hw2_⟩; replace E := (E.wh hw_).wh hw2_; clear hw_ hw2_; have q := E.cls; (repeat obtain ⟨_, _, q⟩ := q); clear q))
   refine bodyPost_ret (results_single rfl (.cell _ _ _ (0, 0) _ rfl E.blk Tryz.underlying84 rfl (by kernel_rfl) .nil)) rfl ?_
   exact ⟨E.below, RQ.mk E.getW E.getW⟩
end Go.Proofs.YtfmcgammhfdfnaaGreatDoor.PRatio

