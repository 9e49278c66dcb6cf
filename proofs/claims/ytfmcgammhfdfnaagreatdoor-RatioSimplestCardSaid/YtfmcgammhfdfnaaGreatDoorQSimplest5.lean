/- Go functions as plain Lean functions, each with a proof that the Go code computes just that, and facts on them; conditions: those that each theorem states. -/
import Derived.Test.YtfmcgammhfdfnaaGreatDoorQSimplest4
namespace Go.Proofs.YtfmcgammhfdfnaaGreatDoor.PRatio
open Go.RowKit Go.Proofs.YtfmcgammhfdfnaaGreatDoorW.PrintWords Go.Proofs.YtfmcgammhfdfnaaGreatDoorW.PrintLast Go.Proofs.YtfmcgammhfdfnaaGreatDoorW.PrintMore
set_option linter.unusedVariables false
set_option linter.unusedSimpArgs false
set_option maxHeartbeats 8000000
set_option maxRecDepth 100000
def dgl (l : List Int) : Bool := l.all isd && !l.isEmpty
def parL (l : List Int) : Except Int (Int × Int) :=
 if (46 : Int) ∈ l then
  (if dgl (l.takeWhile (· != 46)) = true ∧ dgl (l.dropWhile (· != 46)).tail = true then .ok (tv (l.takeWhile (· != 46) ++ (l.dropWhile (· != 46)).tail), 10 ^ (l.dropWhile (· != 46)).tail.length) else .error 2)
 else if (47 : Int) ∈ l then
  (if dgl (l.takeWhile (· != 47)) = true ∧ dgl (l.dropWhile (· != 47)).tail = true then (if tv (l.dropWhile (· != 47)).tail = 0 then .error 9 else .ok (tv (l.takeWhile (· != 47)), tv (l.dropWhile (· != 47)).tail)) else .error 2)
 else if dgl l = true then .ok (tv l, 1) else .error 2
def parS (s : ByteArray) : ByteArray × Int := if 4000 < s.size then (⟨#[]⟩, 3) else
 match parL (bytesOf (cutm s).1) with
 |.error c => (⟨#[]⟩, c)
 |.ok p => res (Rat.divInt (if (cutm s).2 = true then -p.1 else p.1) p.2)
theorem cutat_list {c : Int} {a b : List Int} (h : c ∉ a) : (a ++ c :: b).takeWhile (· != c) = a ∧ ((a ++ c :: b).dropWhile (· != c)).tail = b := by
 constructor
 ·rw [List.takeWhile_append_of_pos (fun x hx => by simp; rintro rfl; exact h hx)]
  simp
 ·rw [List.dropWhile_append_of_pos (fun x hx => by simp; rintro rfl; exact h hx)]
  simp
theorem parL_dot {r h t : ByteArray} (hc : CutAt r 46 h t true) : parL (bytesOf r) = if dgs h = true ∧ dgs t = true then .ok (tv (bytesOf h ++ bytesOf t), 10 ^ t.size) else .error 2 := by
 have e : bytesOf r = bytesOf h ++ 46 :: bytesOf t := hc.yes rfl
 have ho : (46 : Int) ∉ bytesOf h := hc.out rfl
 unfold parL
 rw [e, if_pos (by simp), (cutat_list ho).1, (cutat_list ho).2, bytesOf_size]
 rfl
theorem parL_slash {r h t x y : ByteArray} (hd : CutAt r 46 x y false) (hc : CutAt r 47 h t true) : parL (bytesOf r) = if dgs h = true ∧ dgs t = true then (if tv (bytesOf t) = 0 then .error 9 else .ok (tv (bytesOf h), tv (bytesOf t))) else .error 2 := by
 have hn : (46 : Int) ∉ bytesOf r := (hd.no rfl).2.2
 have e : bytesOf r = bytesOf h ++ 47 :: bytesOf t := hc.yes rfl
 have ho : (47 : Int) ∉ bytesOf h := hc.out rfl
 unfold parL
 rw [if_neg hn, e, if_pos (by simp), (cutat_list ho).1, (cutat_list ho).2]
 rfl
theorem parL_int {r h t x y : ByteArray} (hd : CutAt r 46 x y false) (hc : CutAt r 47 h t false) : parL (bytesOf r) = if dgs r = true then .ok (tv (bytesOf r), 1) else .error 2 := by
 have hn : (46 : Int) ∉ bytesOf r := (hd.no rfl).2.2
 have hn' : (47 : Int) ∉ bytesOf r := (hc.no rfl).2.2
 unfold parL
 rw [if_neg hn, if_neg hn']
 rfl
section
variable {W : World} {s : ByteArray}
theorem dgs_of {b : Bool} (h : dgs s = b) : Calls Tryz.prog 82 #[.string s] W fun e w' => Below W.heap.size W w' ∧ (fun e w' => e = .returned (.bool b)) e w' := h ▸ isdigits_calls W s
theorem plain_of {z : Int} (hd : (bytesOf s).all isd = true) (hz : tv (bytesOf s) = z) (hs : s.size ≤ 9000000000000) : Calls Tryz.prog 83 #[.string s] W fun e w' => Below W.heap.size W w' ∧ RW z e w' := hz ▸ plain_calls W s hd hs
theorem cont_of {b : Bool} (h : decide ((46 : Int) ∈ bytesOf s) = b) : Calls Tryz.prog 85 #[.string s, .string ⟨#[46]⟩] W fun e w' => Below W.heap.size W w' ∧ (fun e w' => e = .returned (.bool b)) e w' := by
 have := cont_calls s 46 W
 subst h
 exact this
theorem rep_of {k : Nat} {z : ByteArray} (hz : (⟨(Lib.repeatL [48] k).toArray⟩ : ByteArray) = z) (hk : k ≤ 4000) : Calls Tryz.prog 81 #[.string ⟨#[48]⟩, .int .i64 k] W fun e w' => Below W.heap.size W w' ∧ (fun e w' => e = .returned (.string z)) e w' := by
 have := Tryz.strings_Repeat ⟨#[48]⟩ k W (by omega) (by show 1 * k ≤ _; omega)
 subst hz
 exact this.mono fun e w' h => ⟨h.2, h.1⟩
end
theorem repL_bytes (k : Nat) : bytesOf ⟨(Lib.repeatL [48] k).toArray⟩ = List.replicate k 48 := by
 induction k with
 |zero => rfl
 |succ k ih =>
  rw [List.replicate_succ, ← ih]
  simp [bytesOf, Lib.repeatL]
theorem one_zeros (k : Nat) : tv (bytesOf (⟨#[49]⟩ ++ ⟨(Lib.repeatL [48] k).toArray⟩)) = 10 ^ k ∧ (bytesOf (⟨#[49]⟩ ++ ⟨(Lib.repeatL [48] k).toArray⟩)).all isd = true := by
 have e1 : bytesOf ⟨#[49]⟩ = [49] := rfl
 rw [bytesOf_append, repL_bytes, e1, tv_append, List.length_replicate]
 have e2 : tv (List.replicate k 48) = 0 := by have := tv_zeros k []; rw [List.append_nil] at this; rw [this]; rfl
 have e3 : tv [49] = 1 := by decide
 rw [e2, e3]
 refine ⟨by omega, ?_⟩
 rw [List.all_append, Bool.and_eq_true]
 exact ⟨by decide, List.all_eq_true.2 fun x hx => by rw [List.eq_of_mem_replicate hx]; decide⟩
theorem tv_ln {l : List Int} (h : l.all isd = true) (hl : l.length ≤ 9000) : Ln (tv l) 1000 := by
 have h1 := tv_lim h
 have h2 : (tv l).natAbs < 10 ^ l.length := by
  have e : ((10 ^ l.length : Nat) : Int) = 10 ^ l.length := by rw [Int.natCast_pow]; rfl
  have := h1.2
  rw [← e] at this
  omega
 have h3 := (nd_le l.length (tv l).natAbs).2 h2
 exact (ln_nd (k := 9000) (by omega)).mono (by omega)
theorem dgs_all {s : ByteArray} (h : dgs s = true) : (bytesOf s).all isd = true := by
 unfold dgs at h
 rw [Bool.and_eq_true] at h
 exact h.1
theorem dgs_pos {s : ByteArray} (h : dgs s = true) : 0 < s.size := by
 unfold dgs at h
 rw [Bool.and_eq_true] at h
 have := h.2
 rw [← bytesOf_size]
 cases hb : bytesOf s with
 |nil => rw [hb] at this; cases this
 |cons a l => simp
theorem parse_calls (W : World) (s : ByteArray) (hs : s.size ≤ 9223372036854775807) : Calls Tryz.prog 13 #[.string s] W fun e w' => Below W.heap.size W w' ∧ e = .returned (.tuple #[.string (parS s).1, .int .i64 (parS s).2]) := by
 have E := Env.start W
 by_cases hl : 4000 < s.size
 ·have hb : decide ((4000 : Int) < (s.size : Int)) = true := decide_eq_true (by omega)
  have e : parS s = (⟨#[]⟩, 3) := if_pos hl
  rw [e]
  clear hl e hs
  go_enter Tryz.func13, Tryz.ntmps13
  go_wp2
  refine bodyPost_ret (results_list (rs := [.tmp _, .tmp _]) rfl (by simp) (.tmp (.tmp .nil))) rfl ?_
  exact ⟨E.below, rfl⟩
 have hlb : decide ((4000 : Int) < (s.size : Int)) = false := decide_eq_false (by omega)
 obtain ⟨r, mi, hc⟩ : ∃ r mi, cutm s = (r, mi) := ⟨_, _, rfl⟩
 have e : parS s = match parL (bytesOf r) with | .error c => (⟨#[]⟩, c) | .ok p => res (Rat.divInt (if mi = true then -p.1 else p.1) p.2) := by
  unfold parS
  rw [if_neg hl, hc]
 rw [e]
 have hrs := (cutm_spec hc).2.2
 have HC := Aside0.mk hc
 have HRS := Aside0.mk (show r.size ≤ 9000000000000 by omega)
 have HR4 := Aside0.mk (show r.size ≤ 4000 by omega)
 clear hl e hc hrs hs
 obtain ⟨F, hF⟩ : ∃ F : UInt8 → ByteArray × ByteArray × Bool, ∀ c, CutAt r c (F c).1 (F c).2.1 (F c).2.2 := Classical.axiomOfChoice (r := fun (c : UInt8) (p : ByteArray × ByteArray × Bool) => CutAt r c p.1 p.2.1 p.2.2) fun c => by
  obtain ⟨a, b, f, h⟩ := cut_ex r c
  exact ⟨(a, b, f), h⟩
 have HF := Aside0.mk hF
 obtain ⟨x, y, fd, h46⟩ : ∃ x y f, F 46 = (x, y, f) := ⟨_, _, _, rfl⟩
 have hd : CutAt r 46 x y fd := by have := hF 46; rw [h46] at this; exact this
 have HD := Aside0.mk hd
 have F46 := Aside0.mk h46
 clear h46
 cases fd with
 |true =>
  rw [parL_dot hd]
  have hxy := hd.size
  obtain ⟨z, hz⟩ : ∃ z : ByteArray, (⟨(Lib.repeatL [48] y.size).toArray⟩ : ByteArray) = z := ⟨_, rfl⟩
  obtain ⟨bl, hbl⟩ : ∃ bl : ByteArray, (⟨#[49]⟩ ++ z : ByteArray) = bl := ⟨_, rfl⟩
  obtain ⟨xy, hxyc⟩ : ∃ xy : ByteArray, x ++ y = xy := ⟨_, rfl⟩
  have hzs : z.size = y.size := by rw [← bytesOf_size, ← hz, repL_bytes, List.length_replicate]
  have HZ := Aside0.mk hz
  have HK := Aside0.mk (show y.size ≤ 4000 by have := HR4.out; omega)
  have hsz1 : (9223372036854775807 < 1 + z.size) = False := eq_false (by have := HK.out; omega)
  have hsz2 : (9223372036854775807 < x.size + y.size) = False := eq_false (by have := HR4.out; omega)
  have h1z := one_zeros y.size
  rw [hz, hbl] at h1z
  clear hd hF
  cases hx : dgs x with
  |false =>
   have HX := Aside0.mk hx
   rw [if_neg (fun h => by cases h.1)]
   clear hx hxy hz hzs h1z
   show Calls Tryz.prog 13 #[Value.string s] W fun e w' => Below W.heap.size W w' ∧ e = .returned (.tuple #[.string ⟨#[]⟩, .int .i64 2])
   go_enter Tryz.func13, Tryz.ntmps13
   go_wp2_with (first | ((with_reducible first | refine gate_box (by rfl) ?_ | refine gate_alloc (by rfl) ?_); refine bx_ E ?_; clear E; intro gb wb E; have q := E.cls; (repeat obtain ⟨_, _, q⟩ := q); clear q) | ((with_reducible refine gate_stored (t := 77) (by rfl) ?_); refine st_ (fun ws hs_ => ?_); replace E := Env.pt2 hs_ E; clear hs_; have q := E.cls; (repeat obtain ⟨_, _, q⟩ := q); clear q) | (go_at_call 79; refine env_call E (cutp_calls _ s) ?_; clear E; rintro e wc E rfl; rw [HC.out]; have q := E.cls; (repeat obtain ⟨_, _, q⟩ := q); clear q) | (go_at_call 80; refine env_call E (cut_of _ (HF.out _) HRS.out) ?_; clear E; rintro e wc E rfl; rw [F46.out]; dsimp only; have q := E.cls; (repeat obtain ⟨_, _, q⟩ := q); clear q) | (go_at_call 81; refine env_call E (rep_of (k := y.size) HZ.out HK.out) ?_; clear E; rintro e wc E rfl; have q := E.cls; (repeat obtain ⟨_, _, q⟩ := q); clear q) | (go_at_call 82; refine env_call E (dgs_of HX.out) ?_; clear E; rintro e wc E rfl; have q := E.cls; (repeat obtain ⟨_, _, q⟩ := q); clear q))
   refine bodyPost_ret (results_list (rs := [.tmp _, .tmp _]) rfl (by simp) (.tmp (.tmp .nil))) rfl ?_
   exact ⟨E.below, rfl⟩
  |true =>
   cases hy : dgs y with
   |false =>
    have HX := Aside0.mk hx
    have HY := Aside0.mk hy
    rw [if_neg (fun h => by cases h.2)]
    clear hx hy hxy hz hzs h1z
    show Calls Tryz.prog 13 #[Value.string s] W fun e w' => Below W.heap.size W w' ∧ e = .returned (.tuple #[.string ⟨#[]⟩, .int .i64 2])
    go_enter Tryz.func13, Tryz.ntmps13
    go_wp2_with (first | ((with_reducible first | refine gate_box (by rfl) ?_ | refine gate_alloc (by rfl) ?_); refine bx_ E ?_; clear E; intro gb wb E; have q := E.cls; (repeat obtain ⟨_, _, q⟩ := q); clear q) | ((with_reducible refine gate_stored (t := 77) (by rfl) ?_); refine st_ (fun ws hs_ => ?_); replace E := Env.pt2 hs_ E; clear hs_; have q := E.cls; (repeat obtain ⟨_, _, q⟩ := q); clear q) | (go_at_call 79; refine env_call E (cutp_calls _ s) ?_; clear E; rintro e wc E rfl; rw [HC.out]; have q := E.cls; (repeat obtain ⟨_, _, q⟩ := q); clear q) | (go_at_call 80; refine env_call E (cut_of _ (HF.out _) HRS.out) ?_; clear E; rintro e wc E rfl; rw [F46.out]; dsimp only; have q := E.cls; (repeat obtain ⟨_, _, q⟩ := q); clear q) | (go_at_call 81; refine env_call E (rep_of (k := y.size) HZ.out HK.out) ?_; clear E; rintro e wc E rfl; have q := E.cls; (repeat obtain ⟨_, _, q⟩ := q); clear q) | (go_at_call 82; refine env_call E (dgs_of HX.out) ?_; clear E; rintro e wc E rfl; have q := E.cls; (repeat obtain ⟨_, _, q⟩ := q); clear q) | (go_at_call 82; refine env_call E (dgs_of HY.out) ?_; clear E; rintro e wc E rfl; have q := E.cls; (repeat obtain ⟨_, _, q⟩ := q); clear q))
    refine bodyPost_ret (results_list (rs := [.tmp _, .tmp _]) rfl (by simp) (.tmp (.tmp .nil))) rfl ?_
    exact ⟨E.below, rfl⟩
   |true =>
    have HX := Aside0.mk hx
    have HY := Aside0.mk hy
    rw [if_pos ⟨rfl, rfl⟩]
    obtain ⟨nn, hn⟩ : ∃ n, tv (bytesOf xy) = n := ⟨_, rfl⟩
    obtain ⟨nx, hnx⟩ : ∃ n, tv (bytesOf x) = n := ⟨_, rfl⟩
    obtain ⟨dd, hdd⟩ : ∃ d : Int, 10 ^ y.size = d := ⟨_, rfl⟩
    have hall : (bytesOf xy).all isd = true := by rw [← hxyc, bytesOf_append, List.all_append, dgs_all hx, dgs_all hy]; rfl
    rw [← bytesOf_append, hxyc, hn, hdd]
    have PX := Aside0.mk (show (bytesOf x).all isd = true ∧ tv (bytesOf x) = nx ∧ x.size ≤ 9000000000000 from ⟨dgs_all hx, hnx, by have := HR4.out; omega⟩)
    have PXY := Aside0.mk (show (bytesOf xy).all isd = true ∧ tv (bytesOf xy) = nn ∧ xy.size ≤ 9000000000000 from ⟨hall, hn, by rw [← hxyc, ByteArray.size_append]; have := HR4.out; omega⟩)
    have hbll : (bytesOf bl).length = 1 + y.size := by rw [← hbl, bytesOf_append, List.length_append, bytesOf_size z, hzs]; rfl
    have PZ := Aside0.mk (show (bytesOf bl).all isd = true ∧ tv (bytesOf bl) = dd ∧ bl.size ≤ 9000000000000 from ⟨h1z.2, h1z.1.trans hdd, by rw [← bytesOf_size, hbll]; have := HR4.out; omega⟩)
    have hp := dgs_pos hy
    have hdp : 0 < dd := by rw [← hdd]; exact Ten.pow_pos _
    have D0 := Aside0.mk (show dd ≠ 0 by omega)
    have hs0 : (sgnI dd == 0) = false := beq_eq_false_iff_ne.mpr (fun h => D0.out ((sgnI_zero _).1 h))
    have hln : decide ((1 : Int) < (bl.size : Int)) = true := decide_eq_true (by rw [← bytesOf_size, hbll]; omega)
    have hln2 : decide ((1 : Int) < ((1 + z.size : Nat) : Int)) = true := decide_eq_true (by omega)
    have hln3 : decide ((1 : Int) < (1 : Int) + (z.size : Int)) = true := decide_eq_true (by omega)
    have CN := Aside0.mk (show decide ((46 : Int) ∈ bytesOf r) = true from decide_eq_true (by rw [HD.out.yes rfl]; simp))
    have LN := Aside0.mk (show Ln nn 1000 by rw [← hn]; exact tv_ln hall (by rw [bytesOf_size, ← hxyc, ByteArray.size_append]; have := HR4.out; omega))
    have LD := Aside0.mk (show Ln dd 1000 by rw [← PZ.out.2.1]; exact tv_ln h1z.2 (by rw [hbll]; have := HR4.out; omega))
    clear hx hy hxy hz hzs h1z hn hdd hall hbll hp hdp hnx
    cases mi with
    |true =>
     have LNN := Aside0.mk (show Ln (-nn) 1000 from LN.out.neg)
     show Calls Tryz.prog 13 #[Value.string s] W fun e w' => Below W.heap.size W w' ∧ e = .returned (.tuple #[.string (res (Rat.divInt (-nn) dd)).1, .int .i64 (res (Rat.divInt (-nn) dd)).2])
     go_enter Tryz.func13, Tryz.ntmps13
     go_wp2_with (first | ((with_reducible first | refine gate_box (by rfl) ?_ | refine gate_alloc (by rfl) ?_); refine bx_ E ?_; clear E; intro gb wb E; have q := E.cls; (repeat obtain ⟨_, _, q⟩ := q); clear q) | ((with_reducible refine gate_stored (t := 77) (by rfl) ?_); refine st_ (fun ws hs_ => ?_); replace E := Env.pt2 hs_ E; clear hs_; have q := E.cls; (repeat obtain ⟨_, _, q⟩ := q); clear q) | (go_at_call 79; refine env_call E (cutp_calls _ s) ?_; clear E; rintro e wc E rfl; rw [HC.out]; have q := E.cls; (repeat obtain ⟨_, _, q⟩ := q); clear q) | (go_at_call 80; refine env_call E (cut_of _ (HF.out _) HRS.out) ?_; clear E; rintro e wc E rfl; rw [F46.out]; dsimp only; have q := E.cls; (repeat obtain ⟨_, _, q⟩ := q); clear q) | (go_at_call 81; refine env_call E (rep_of (k := y.size) HZ.out HK.out) ?_; clear E; rintro e wc E rfl; have q := E.cls; (repeat obtain ⟨_, _, q⟩ := q); clear q) | (go_at_call 82; refine env_call E (dgs_of HX.out) ?_; clear E; rintro e wc E rfl; have q := E.cls; (repeat obtain ⟨_, _, q⟩ := q); clear q) | (go_at_call 82; refine env_call E (dgs_of HY.out) ?_; clear E; rintro e wc E rfl; have q := E.cls; (repeat obtain ⟨_, _, q⟩ := q); clear q) | (go_at_call 83; refine env_call E (plain_of PX.out.1 PX.out.2.1 PX.out.2.2) ?_; clear E; rintro e wc E ⟨br, Ar, nr, cr, rfl, hw_⟩; replace E := E.wh hw_; clear hw_; have q := E.cls; (repeat obtain ⟨_, _, q⟩ := q); clear q) | (go_at_call 83; refine env_call E (plain_of PXY.out.1 PXY.out.2.1 PXY.out.2.2) ?_; clear E; rintro e wc E ⟨br, Ar, nr, cr, rfl, hw_⟩; replace E := E.wh hw_; clear hw_; have q := E.cls; (repeat obtain ⟨_, _, q⟩ := q); clear q) | (go_at_call 83; refine env_call E (plain_of PZ.out.1 PZ.out.2.1 PZ.out.2.2) ?_; clear E; rintro e wc E ⟨br, Ar, nr, cr, rfl, hw_⟩; replace E := E.wh hw_; clear hw_; have q := E.cls; (repeat obtain ⟨_, _, q⟩ := q); clear q) | (go_at_call 84; refine env_call E (sign_calls E.getW) ?_; clear E; rintro e wc E rfl; have q := E.cls; (repeat obtain ⟨_, _, q⟩ := q); clear q) | (go_at_call 85; refine env_call E (cont_of CN.out) ?_; clear E; rintro e wc E rfl; have q := E.cls; (repeat obtain ⟨_, _, q⟩ := q); clear q) | (go_at_call 86; refine env_call E (neg_calls E.getW) ?_; clear E; rintro e wc E ⟨br, Ar, nr, cr, rfl, hw_⟩; replace E := E.wh hw_; clear hw_; have q := E.cls; (repeat obtain ⟨_, _, q⟩ := q); clear q) | (go_at_call 88; refine env_call E (over_calls (m := -nn) (d := dd) E.getW E.getW D0.out (LNN.out.fits (by omega)) (LD.out.fits (by omega))) ?_; clear E; rintro e wc E ⟨br, Ar, nr, cr, br2, Ar2, nr2, cr2, rfl, hw_, hw2_⟩; replace E := (E.wh hw_).wh hw2_; clear hw_ hw2_; have q := E.cls; (repeat obtain ⟨_, _, q⟩ := q); clear q) | (go_at_call 87; refine env_call E (result_calls (q := Rat.divInt (-nn) dd) E.getW E.getW rfl (dn_den _) ((lnq_div LNN.out LD.out (by omega)).1.mono (by omega)) ((lnq_div LNN.out LD.out (by omega)).2.mono (by omega))) ?_; clear E; rintro e wc E rfl; have q := E.cls; (repeat obtain ⟨_, _, q⟩ := q); clear q))
     refine bodyPost_ret (results_list (rs := [.tmp _, .tmp _]) rfl (by simp) (.tmp (.tmp .nil))) rfl ?_
     exact ⟨E.below, rfl⟩
    |false =>
     have LNN := Aside0.mk (show Ln (nn) 1000 from LN.out)
     show Calls Tryz.prog 13 #[Value.string s] W fun e w' => Below W.heap.size W w' ∧ e = .returned (.tuple #[.string (res (Rat.divInt (nn) dd)).1, .int .i64 (res (Rat.divInt (nn) dd)).2])
     go_enter Tryz.func13, Tryz.ntmps13
     go_wp2_with (first | ((with_reducible first | refine gate_box (by rfl) ?_ | refine gate_alloc (by rfl) ?_); refine bx_ E ?_; clear E; intro gb wb E; have q := E.cls; (repeat obtain ⟨_, _, q⟩ := q); clear q) | ((with_reducible refine gate_stored (t := 77) (by rfl) ?_); refine st_ (fun ws hs_ => ?_); replace E := Env.pt2 hs_ E; clear hs_; have q := E.cls; (repeat obtain ⟨_, _, q⟩ := q); clear q) | (go_at_call 79; refine env_call E (cutp_calls _ s) ?_; clear E; rintro e wc E rfl; rw [HC.out]; have q := E.cls; (repeat obtain ⟨_, _, q⟩ := q); clear q) | (go_at_call 80; refine env_call E (cut_of _ (HF.out _) HRS.out) ?_; clear E; rintro e wc E rfl; rw [F46.out]; dsimp only; have q := E.cls; (repeat obtain ⟨_, _, q⟩ := q); clear q) | (go_at_call 81; refine env_call E (rep_of (k := y.size) HZ.out HK.out) ?_; clear E; rintro e wc E rfl; have q := E.cls; (repeat obtain ⟨_, _, q⟩ := q); clear q) | (go_at_call 82; refine env_call E (dgs_of HX.out) ?_; clear E; rintro e wc E rfl; have q := E.cls; (repeat obtain ⟨_, _, q⟩ := q); clear q) | (go_at_call 82; refine env_call E (dgs_of HY.out) ?_; clear E; rintro e wc E rfl; have q := E.cls; (repeat obtain ⟨_, _, q⟩ := q); clear q) | (go_at_call 83; refine env_call E (plain_of PX.out.1 PX.out.2.1 PX.out.2.2) ?_; clear E; rintro e wc E ⟨br, Ar, nr, cr, rfl, hw_⟩; replace E := E.wh hw_; clear hw_; have q := E.cls; (repeat obtain ⟨_, _, q⟩ := q); clear q) | (go_at_call 83; refine env_call E (plain_of PXY.out.1 PXY.out.2.1 PXY.out.2.2) ?_; clear E; rintro e wc E ⟨br, Ar, nr, cr, rfl, hw_⟩; replace E := E.wh hw_; clear hw_; have q := E.cls; (repeat obtain ⟨_, _, q⟩ := q); clear q) | (go_at_call 83; refine env_call E (plain_of PZ.out.1 PZ.out.2.1 PZ.out.2.2) ?_; clear E; rintro e wc E ⟨br, Ar, nr, cr, rfl, hw_⟩; replace E := E.wh hw_; clear hw_; have q := E.cls; (repeat obtain ⟨_, _, q⟩ := q); clear q) | (go_at_call 84; refine env_call E (sign_calls E.getW) ?_; clear E; rintro e wc E rfl; have q := E.cls; (repeat obtain ⟨_, _, q⟩ := q); clear q) | (go_at_call 85; refine env_call E (cont_of CN.out) ?_; clear E; rintro e wc E rfl; have q := E.cls; (repeat obtain ⟨_, _, q⟩ := q); clear q) | (go_at_call 88; refine env_call E (over_calls (m := nn) (d := dd) E.getW E.getW D0.out (LNN.out.fits (by omega)) (LD.out.fits (by omega))) ?_; clear E; rintro e wc E ⟨br, Ar, nr, cr, br2, Ar2, nr2, cr2, rfl, hw_, hw2_⟩; replace E := (E.wh hw_).wh hw2_; clear hw_ hw2_; have q := E.cls; (repeat obtain ⟨_, _, q⟩ := q); clear q) | (go_at_call 87; refine env_call E (result_calls (q := Rat.divInt (nn) dd) E.getW E.getW rfl (dn_den _) ((lnq_div LNN.out LD.out (by omega)).1.mono (by omega)) ((lnq_div LNN.out LD.out (by omega)).2.mono (by omega))) ?_; clear E; rintro e wc E rfl; have q := E.cls; (repeat obtain ⟨_, _, q⟩ := q); clear q))
     refine bodyPost_ret (results_list (rs := [.tmp _, .tmp _]) rfl (by simp) (.tmp (.tmp .nil))) rfl ?_
     exact ⟨E.below, rfl⟩
 |false =>
  obtain ⟨h, t, fs, h47⟩ : ∃ x y f, F 47 = (x, y, f) := ⟨_, _, _, rfl⟩
  have hsl : CutAt r 47 h t fs := by have := hF 47; rw [h47] at this; exact this
  have F47 := Aside0.mk h47
  clear h47 hF
  have hht := hsl.size
  have CN := Aside0.mk (show decide ((46 : Int) ∈ bytesOf r) = false from decide_eq_false (hd.no rfl).2.2)
  cases fs with
  |true =>
   rw [parL_slash hd hsl]
   cases hx : dgs h with
   |false =>
    have HX := Aside0.mk hx
    rw [if_neg (fun h => by cases h.1)]
    clear hx hd hsl hht
    show Calls Tryz.prog 13 #[Value.string s] W fun e w' => Below W.heap.size W w' ∧ e = .returned (.tuple #[.string ⟨#[]⟩, .int .i64 2])
    go_enter Tryz.func13, Tryz.ntmps13
    go_wp2_with (first | ((with_reducible first | refine gate_box (by rfl) ?_ | refine gate_alloc (by rfl) ?_); refine bx_ E ?_; clear E; intro gb wb E; have q := E.cls; (repeat obtain ⟨_, _, q⟩ := q); clear q) | ((with_reducible refine gate_stored (t := 77) (by rfl) ?_); refine st_ (fun ws hs_ => ?_); replace E := Env.pt2 hs_ E; clear hs_; have q := E.cls; (repeat obtain ⟨_, _, q⟩ := q); clear q) | (go_at_call 79; refine env_call E (cutp_calls _ s) ?_; clear E; rintro e wc E rfl; rw [HC.out]; have q := E.cls; (repeat obtain ⟨_, _, q⟩ := q); clear q) | (go_at_call 80; refine env_call E (cut_of _ (HF.out _) HRS.out) ?_; clear E; rintro e wc E rfl; (first | rw [F46.out] | rw [F47.out]); dsimp only; have q := E.cls; (repeat obtain ⟨_, _, q⟩ := q); clear q) | (go_at_call 82; refine env_call E (dgs_of HX.out) ?_; clear E; rintro e wc E rfl; have q := E.cls; (repeat obtain ⟨_, _, q⟩ := q); clear q))
    refine bodyPost_ret (results_list (rs := [.tmp _, .tmp _]) rfl (by simp) (.tmp (.tmp .nil))) rfl ?_
    exact ⟨E.below, rfl⟩
   |true =>
    cases hy : dgs t with
    |false =>
     have HX := Aside0.mk hx
     have HY := Aside0.mk hy
     rw [if_neg (fun h => by cases h.2)]
     clear hx hy hd hsl hht
     show Calls Tryz.prog 13 #[Value.string s] W fun e w' => Below W.heap.size W w' ∧ e = .returned (.tuple #[.string ⟨#[]⟩, .int .i64 2])
     go_enter Tryz.func13, Tryz.ntmps13
     go_wp2_with (first | ((with_reducible first | refine gate_box (by rfl) ?_ | refine gate_alloc (by rfl) ?_); refine bx_ E ?_; clear E; intro gb wb E; have q := E.cls; (repeat obtain ⟨_, _, q⟩ := q); clear q) | ((with_reducible refine gate_stored (t := 77) (by rfl) ?_); refine st_ (fun ws hs_ => ?_); replace E := Env.pt2 hs_ E; clear hs_; have q := E.cls; (repeat obtain ⟨_, _, q⟩ := q); clear q) | (go_at_call 79; refine env_call E (cutp_calls _ s) ?_; clear E; rintro e wc E rfl; rw [HC.out]; have q := E.cls; (repeat obtain ⟨_, _, q⟩ := q); clear q) | (go_at_call 80; refine env_call E (cut_of _ (HF.out _) HRS.out) ?_; clear E; rintro e wc E rfl; (first | rw [F46.out] | rw [F47.out]); dsimp only; have q := E.cls; (repeat obtain ⟨_, _, q⟩ := q); clear q) | (go_at_call 82; refine env_call E (dgs_of HX.out) ?_; clear E; rintro e wc E rfl; have q := E.cls; (repeat obtain ⟨_, _, q⟩ := q); clear q) | (go_at_call 82; refine env_call E (dgs_of HY.out) ?_; clear E; rintro e wc E rfl; have q := E.cls; (repeat obtain ⟨_, _, q⟩ := q); clear q))
     refine bodyPost_ret (results_list (rs := [.tmp _, .tmp _]) rfl (by simp) (.tmp (.tmp .nil))) rfl ?_
     exact ⟨E.below, rfl⟩
    |true =>
     have HX := Aside0.mk hx
     have HY := Aside0.mk hy
     rw [if_pos ⟨rfl, rfl⟩]
     obtain ⟨nn, hn⟩ : ∃ n, tv (bytesOf h) = n := ⟨_, rfl⟩
     obtain ⟨dd, hdd⟩ : ∃ d : Int, tv (bytesOf t) = d := ⟨_, rfl⟩
     have PX := Aside0.mk (show (bytesOf h).all isd = true ∧ tv (bytesOf h) = nn ∧ h.size ≤ 9000000000000 from ⟨dgs_all hx, hn, by have := HR4.out; omega⟩)
     have PT := Aside0.mk (show (bytesOf t).all isd = true ∧ tv (bytesOf t) = dd ∧ t.size ≤ 9000000000000 from ⟨dgs_all hy, hdd, by have := HR4.out; omega⟩)
     have LN := Aside0.mk (show Ln nn 1000 by rw [← hn]; exact tv_ln (dgs_all hx) (by rw [bytesOf_size]; have := HR4.out; omega))
     have LD := Aside0.mk (show Ln dd 1000 by rw [← hdd]; exact tv_ln (dgs_all hy) (by rw [bytesOf_size]; have := HR4.out; omega))
     rw [hn, hdd]
     by_cases hd0 : dd = 0
     ·have hs0 : (sgnI dd == 0) = true := by rw [hd0]; rfl
      rw [if_pos hd0]
      clear hx hy hd hsl hht hn hdd hd0
      show Calls Tryz.prog 13 #[Value.string s] W fun e w' => Below W.heap.size W w' ∧ e = .returned (.tuple #[.string ⟨#[]⟩, .int .i64 9])
      go_enter Tryz.func13, Tryz.ntmps13
      go_wp2_with (first | ((with_reducible first | refine gate_box (by rfl) ?_ | refine gate_alloc (by rfl) ?_); refine bx_ E ?_; clear E; intro gb wb E; have q := E.cls; (repeat obtain ⟨_, _, q⟩ := q); clear q) | ((with_reducible refine gate_stored (t := 77) (by rfl) ?_); refine st_ (fun ws hs_ => ?_); replace E := Env.pt2 hs_ E; clear hs_; have q := E.cls; (repeat obtain ⟨_, _, q⟩ := q); clear q) | (go_at_call 79; refine env_call E (cutp_calls _ s) ?_; clear E; rintro e wc E rfl; rw [HC.out]; have q := E.cls; (repeat obtain ⟨_, _, q⟩ := q); clear q) | (go_at_call 80; refine env_call E (cut_of _ (HF.out _) HRS.out) ?_; clear E; rintro e wc E rfl; (first | rw [F46.out] | rw [F47.out]); dsimp only; have q := E.cls; (repeat obtain ⟨_, _, q⟩ := q); clear q) | (go_at_call 82; refine env_call E (dgs_of HX.out) ?_; clear E; rintro e wc E rfl; have q := E.cls; (repeat obtain ⟨_, _, q⟩ := q); clear q) | (go_at_call 82; refine env_call E (dgs_of HY.out) ?_; clear E; rintro e wc E rfl; have q := E.cls; (repeat obtain ⟨_, _, q⟩ := q); clear q) | (go_at_call 83; refine env_call E (plain_of PX.out.1 PX.out.2.1 PX.out.2.2) ?_; clear E; rintro e wc E ⟨br, Ar, nr, cr, rfl, hw_⟩; replace E := E.wh hw_; clear hw_; have q := E.cls; (repeat obtain ⟨_, _, q⟩ := q); clear q) | (go_at_call 83; refine env_call E (plain_of PT.out.1 PT.out.2.1 PT.out.2.2) ?_; clear E; rintro e wc E ⟨br, Ar, nr, cr, rfl, hw_⟩; replace E := E.wh hw_; clear hw_; have q := E.cls; (repeat obtain ⟨_, _, q⟩ := q); clear q) | (go_at_call 84; refine env_call E (sign_calls E.getW) ?_; clear E; rintro e wc E rfl; have q := E.cls; (repeat obtain ⟨_, _, q⟩ := q); clear q))
      refine bodyPost_ret (results_list (rs := [.tmp _, .tmp _]) rfl (by simp) (.tmp (.tmp .nil))) rfl ?_
      exact ⟨E.below, rfl⟩
     ·have hs0 : (sgnI dd == 0) = false := beq_eq_false_iff_ne.mpr (fun h => hd0 ((sgnI_zero _).1 h))
      have D0 := Aside0.mk hd0
      rw [if_neg hd0]
      clear hx hy hd hsl hht hn hdd hd0
      cases hlt : decide ((1 : Int) < (t.size : Int)) with
      |true =>
       cases mi with
       |true =>
        have LNN := Aside0.mk (show Ln (-nn) 1000 from LN.out.neg)
        show Calls Tryz.prog 13 #[Value.string s] W fun e w' => Below W.heap.size W w' ∧ e = .returned (.tuple #[.string (res (Rat.divInt (-nn) dd)).1, .int .i64 (res (Rat.divInt (-nn) dd)).2])
        go_enter Tryz.func13, Tryz.ntmps13
        go_wp2_with (first | ((with_reducible first | refine gate_box (by rfl) ?_ | refine gate_alloc (by rfl) ?_); refine bx_ E ?_; clear E; intro gb wb E; have q := E.cls; (repeat obtain ⟨_, _, q⟩ := q); clear q) | ((with_reducible refine gate_stored (t := 77) (by rfl) ?_); refine st_ (fun ws hs_ => ?_); replace E := Env.pt2 hs_ E; clear hs_; have q := E.cls; (repeat obtain ⟨_, _, q⟩ := q); clear q) | (go_at_call 79; refine env_call E (cutp_calls _ s) ?_; clear E; rintro e wc E rfl; rw [HC.out]; have q := E.cls; (repeat obtain ⟨_, _, q⟩ := q); clear q) | (go_at_call 80; refine env_call E (cut_of _ (HF.out _) HRS.out) ?_; clear E; rintro e wc E rfl; (first | rw [F46.out] | rw [F47.out]); dsimp only; have q := E.cls; (repeat obtain ⟨_, _, q⟩ := q); clear q) | (go_at_call 82; refine env_call E (dgs_of HX.out) ?_; clear E; rintro e wc E rfl; have q := E.cls; (repeat obtain ⟨_, _, q⟩ := q); clear q) | (go_at_call 82; refine env_call E (dgs_of HY.out) ?_; clear E; rintro e wc E rfl; have q := E.cls; (repeat obtain ⟨_, _, q⟩ := q); clear q) | (go_at_call 83; refine env_call E (plain_of PX.out.1 PX.out.2.1 PX.out.2.2) ?_; clear E; rintro e wc E ⟨br, Ar, nr, cr, rfl, hw_⟩; replace E := E.wh hw_; clear hw_; have q := E.cls; (repeat obtain ⟨_, _, q⟩ := q); clear q) | (go_at_call 83; refine env_call E (plain_of PT.out.1 PT.out.2.1 PT.out.2.2) ?_; clear E; rintro e wc E ⟨br, Ar, nr, cr, rfl, hw_⟩; replace E := E.wh hw_; clear hw_; have q := E.cls; (repeat obtain ⟨_, _, q⟩ := q); clear q) | (go_at_call 84; refine env_call E (sign_calls E.getW) ?_; clear E; rintro e wc E rfl; have q := E.cls; (repeat obtain ⟨_, _, q⟩ := q); clear q) | (go_at_call 85; refine env_call E (cont_of CN.out) ?_; clear E; rintro e wc E rfl; have q := E.cls; (repeat obtain ⟨_, _, q⟩ := q); clear q) | (go_at_call 86; refine env_call E (neg_calls E.getW) ?_; clear E; rintro e wc E ⟨br, Ar, nr, cr, rfl, hw_⟩; replace E := E.wh hw_; clear hw_; have q := E.cls; (repeat obtain ⟨_, _, q⟩ := q); clear q) | (go_at_call 88; refine env_call E (over_calls (m := -nn) (d := dd) E.getW E.getW D0.out (LNN.out.fits (by omega)) (LD.out.fits (by omega))) ?_; clear E; rintro e wc E ⟨br, Ar, nr, cr, br2, Ar2, nr2, cr2, rfl, hw_, hw2_⟩; replace E := (E.wh hw_).wh hw2_; clear hw_ hw2_; have q := E.cls; (repeat obtain ⟨_, _, q⟩ := q); clear q) | (go_at_call 87; refine env_call E (result_calls (q := Rat.divInt (-nn) dd) E.getW E.getW rfl (dn_den _) ((lnq_div LNN.out LD.out (by omega)).1.mono (by omega)) ((lnq_div LNN.out LD.out (by omega)).2.mono (by omega))) ?_; clear E; rintro e wc E rfl; have q := E.cls; (repeat obtain ⟨_, _, q⟩ := q); clear q))
        refine bodyPost_ret (results_list (rs := [.tmp _, .tmp _]) rfl (by simp) (.tmp (.tmp .nil))) rfl ?_
        exact ⟨E.below, rfl⟩
       |false =>
        have LNN := Aside0.mk (show Ln (nn) 1000 from LN.out)
        show Calls Tryz.prog 13 #[Value.string s] W fun e w' => Below W.heap.size W w' ∧ e = .returned (.tuple #[.string (res (Rat.divInt (nn) dd)).1, .int .i64 (res (Rat.divInt (nn) dd)).2])
        go_enter Tryz.func13, Tryz.ntmps13
        go_wp2_with (first | ((with_reducible first | refine gate_box (by rfl) ?_ | refine gate_alloc (by rfl) ?_); refine bx_ E ?_; clear E; intro gb wb E; have q := E.cls; (repeat obtain ⟨_, _, q⟩ := q); clear q) | ((with_reducible refine gate_stored (t := 77) (by rfl) ?_); refine st_ (fun ws hs_ => ?_); replace E := Env.pt2 hs_ E; clear hs_; have q := E.cls; (repeat obtain ⟨_, _, q⟩ := q); clear q) | (go_at_call 79; refine env_call E (cutp_calls _ s) ?_; clear E; rintro e wc E rfl; rw [HC.out]; have q := E.cls; (repeat obtain ⟨_, _, q⟩ := q); clear q) | (go_at_call 80; refine env_call E (cut_of _ (HF.out _) HRS.out) ?_; clear E; rintro e wc E rfl; (first | rw [F46.out] | rw [F47.out]); dsimp only; have q := E.cls; (repeat obtain ⟨_, _, q⟩ := q); clear q) | (go_at_call 82; refine env_call E (dgs_of HX.out) ?_; clear E; rintro e wc E rfl; have q := E.cls; (repeat obtain ⟨_, _, q⟩ := q); clear q) | (go_at_call 82; refine env_call E (dgs_of HY.out) ?_; clear E; rintro e wc E rfl; have q := E.cls; (repeat obtain ⟨_, _, q⟩ := q); clear q) | (go_at_call 83; refine env_call E (plain_of PX.out.1 PX.out.2.1 PX.out.2.2) ?_; clear E; rintro e wc E ⟨br, Ar, nr, cr, rfl, hw_⟩; replace E := E.wh hw_; clear hw_; have q := E.cls; (repeat obtain ⟨_, _, q⟩ := q); clear q) | (go_at_call 83; refine env_call E (plain_of PT.out.1 PT.out.2.1 PT.out.2.2) ?_; clear E; rintro e wc E ⟨br, Ar, nr, cr, rfl, hw_⟩; replace E := E.wh hw_; clear hw_; have q := E.cls; (repeat obtain ⟨_, _, q⟩ := q); clear q) | (go_at_call 84; refine env_call E (sign_calls E.getW) ?_; clear E; rintro e wc E rfl; have q := E.cls; (repeat obtain ⟨_, _, q⟩ := q); clear q) | (go_at_call 85; refine env_call E (cont_of CN.out) ?_; clear E; rintro e wc E rfl; have q := E.cls; (repeat obtain ⟨_, _, q⟩ := q); clear q) | (go_at_call 88; refine env_call E (over_calls (m := nn) (d := dd) E.getW E.getW D0.out (LNN.out.fits (by omega)) (LD.out.fits (by omega))) ?_; clear E; rintro e wc E ⟨br, Ar, nr, cr, br2, Ar2, nr2, cr2, rfl, hw_, hw2_⟩; replace E := (E.wh hw_).wh hw2_; clear hw_ hw2_; have q := E.cls; (repeat obtain ⟨_, _, q⟩ := q); clear q) | (go_at_call 87; refine env_call E (result_calls (q := Rat.divInt (nn) dd) E.getW E.getW rfl (dn_den _) ((lnq_div LNN.out LD.out (by omega)).1.mono (by omega)) ((lnq_div LNN.out LD.out (by omega)).2.mono (by omega))) ?_; clear E; rintro e wc E rfl; have q := E.cls; (repeat obtain ⟨_, _, q⟩ := q); clear q))
        refine bodyPost_ret (results_list (rs := [.tmp _, .tmp _]) rfl (by simp) (.tmp (.tmp .nil))) rfl ?_
        exact ⟨E.below, rfl⟩
      |false =>
       cases mi with
       |true =>
        have LNN := Aside0.mk (show Ln (-nn) 1000 from LN.out.neg)
        show Calls Tryz.prog 13 #[Value.string s] W fun e w' => Below W.heap.size W w' ∧ e = .returned (.tuple #[.string (res (Rat.divInt (-nn) dd)).1, .int .i64 (res (Rat.divInt (-nn) dd)).2])
        go_enter Tryz.func13, Tryz.ntmps13
        go_wp2_with (first | ((with_reducible first | refine gate_box (by rfl) ?_ | refine gate_alloc (by rfl) ?_); refine bx_ E ?_; clear E; intro gb wb E; have q := E.cls; (repeat obtain ⟨_, _, q⟩ := q); clear q) | ((with_reducible refine gate_stored (t := 77) (by rfl) ?_); refine st_ (fun ws hs_ => ?_); replace E := Env.pt2 hs_ E; clear hs_; have q := E.cls; (repeat obtain ⟨_, _, q⟩ := q); clear q) | (go_at_call 79; refine env_call E (cutp_calls _ s) ?_; clear E; rintro e wc E rfl; rw [HC.out]; have q := E.cls; (repeat obtain ⟨_, _, q⟩ := q); clear q) | (go_at_call 80; refine env_call E (cut_of _ (HF.out _) HRS.out) ?_; clear E; rintro e wc E rfl; (first | rw [F46.out] | rw [F47.out]); dsimp only; have q := E.cls; (repeat obtain ⟨_, _, q⟩ := q); clear q) | (go_at_call 82; refine env_call E (dgs_of HX.out) ?_; clear E; rintro e wc E rfl; have q := E.cls; (repeat obtain ⟨_, _, q⟩ := q); clear q) | (go_at_call 82; refine env_call E (dgs_of HY.out) ?_; clear E; rintro e wc E rfl; have q := E.cls; (repeat obtain ⟨_, _, q⟩ := q); clear q) | (go_at_call 83; refine env_call E (plain_of PX.out.1 PX.out.2.1 PX.out.2.2) ?_; clear E; rintro e wc E ⟨br, Ar, nr, cr, rfl, hw_⟩; replace E := E.wh hw_; clear hw_; have q := E.cls; (repeat obtain ⟨_, _, q⟩ := q); clear q) | (go_at_call 83; refine env_call E (plain_of PT.out.1 PT.out.2.1 PT.out.2.2) ?_; clear E; rintro e wc E ⟨br, Ar, nr, cr, rfl, hw_⟩; replace E := E.wh hw_; clear hw_; have q := E.cls; (repeat obtain ⟨_, _, q⟩ := q); clear q) | (go_at_call 84; refine env_call E (sign_calls E.getW) ?_; clear E; rintro e wc E rfl; have q := E.cls; (repeat obtain ⟨_, _, q⟩ := q); clear q) | (go_at_call 85; refine env_call E (cont_of CN.out) ?_; clear E; rintro e wc E rfl; have q := E.cls; (repeat obtain ⟨_, _, q⟩ := q); clear q) | (go_at_call 86; refine env_call E (neg_calls E.getW) ?_; clear E; rintro e wc E ⟨br, Ar, nr, cr, rfl, hw_⟩; replace E := E.wh hw_; clear hw_; have q := E.cls; (repeat obtain ⟨_, _, q⟩ := q); clear q) | (go_at_call 88; refine env_call E (over_calls (m := -nn) (d := dd) E.getW E.getW D0.out (LNN.out.fits (by omega)) (LD.out.fits (by omega))) ?_; clear E; rintro e wc E ⟨br, Ar, nr, cr, br2, Ar2, nr2, cr2, rfl, hw_, hw2_⟩; replace E := (E.wh hw_).wh hw2_; clear hw_ hw2_; have q := E.cls; (repeat obtain ⟨_, _, q⟩ := q); clear q) | (go_at_call 87; refine env_call E (result_calls (q := Rat.divInt (-nn) dd) E.getW E.getW rfl (dn_den _) ((lnq_div LNN.out LD.out (by omega)).1.mono (by omega)) ((lnq_div LNN.out LD.out (by omega)).2.mono (by omega))) ?_; clear E; rintro e wc E rfl; have q := E.cls; (repeat obtain ⟨_, _, q⟩ := q); clear q))
        refine bodyPost_ret (results_list (rs := [.tmp _, .tmp _]) rfl (by simp) (.tmp (.tmp .nil))) rfl ?_
        exact ⟨E.below, rfl⟩
       |false =>
        have LNN := Aside0.mk (show Ln (nn) 1000 from LN.out)
        show Calls Tryz.prog 13 #[Value.string s] W fun e w' => Below W.heap.size W w' ∧ e = .returned (.tuple #[.string (res (Rat.divInt (nn) dd)).1, .int .i64 (res (Rat.divInt (nn) dd)).2])
        go_enter Tryz.func13, Tryz.ntmps13
        go_wp2_with (first | ((with_reducible first | refine gate_box (by rfl) ?_ | refine gate_alloc (by rfl) ?_); refine bx_ E ?_; clear E; intro gb wb E; have q := E.cls; (repeat obtain ⟨_, _, q⟩ := q); clear q) | ((with_reducible refine gate_stored (t := 77) (by rfl) ?_); refine st_ (fun ws hs_ => ?_); replace E := Env.pt2 hs_ E; clear hs_; have q := E.cls; (repeat obtain ⟨_, _, q⟩ := q); clear q) | (go_at_call 79; refine env_call E (cutp_calls _ s) ?_; clear E; rintro e wc E rfl; rw [HC.out]; have q := E.cls; (repeat obtain ⟨_, _, q⟩ := q); clear q) | (go_at_call 80; refine env_call E (cut_of _ (HF.out _) HRS.out) ?_; clear E; rintro e wc E rfl; (first | rw [F46.out] | rw [F47.out]); dsimp only; have q := E.cls; (repeat obtain ⟨_, _, q⟩ := q); clear q) | (go_at_call 82; refine env_call E (dgs_of HX.out) ?_; clear E; rintro e wc E rfl; have q := E.cls; (repeat obtain ⟨_, _, q⟩ := q); clear q) | (go_at_call 82; refine env_call E (dgs_of HY.out) ?_; clear E; rintro e wc E rfl; have q := E.cls; (repeat obtain ⟨_, _, q⟩ := q); clear q) | (go_at_call 83; refine env_call E (plain_of PX.out.1 PX.out.2.1 PX.out.2.2) ?_; clear E; rintro e wc E ⟨br, Ar, nr, cr, rfl, hw_⟩; replace E := E.wh hw_; clear hw_; have q := E.cls; (repeat obtain ⟨_, _, q⟩ := q); clear q) | (go_at_call 83; refine env_call E (plain_of PT.out.1 PT.out.2.1 PT.out.2.2) ?_; clear E; rintro e wc E ⟨br, Ar, nr, cr, rfl, hw_⟩; replace E := E.wh hw_; clear hw_; have q := E.cls; (repeat obtain ⟨_, _, q⟩ := q); clear q) | (go_at_call 84; refine env_call E (sign_calls E.getW) ?_; clear E; rintro e wc E rfl; have q := E.cls; (repeat obtain ⟨_, _, q⟩ := q); clear q) | (go_at_call 85; refine env_call E (cont_of CN.out) ?_; clear E; rintro e wc E rfl; have q := E.cls; (repeat obtain ⟨_, _, q⟩ := q); clear q) | (go_at_call 88; refine env_call E (over_calls (m := nn) (d := dd) E.getW E.getW D0.out (LNN.out.fits (by omega)) (LD.out.fits (by omega))) ?_; clear E; rintro e wc E ⟨br, Ar, nr, cr, br2, Ar2, nr2, cr2, rfl, hw_, hw2_⟩; replace E := (E.wh hw_).wh hw2_; clear hw_ hw2_; have q := E.cls; (repeat obtain ⟨_, _, q⟩ := q); clear q) | (go_at_call 87; refine env_call E (result_calls (q := Rat.divInt (nn) dd) E.getW E.getW rfl (dn_den _) ((lnq_div LNN.out LD.out (by omega)).1.mono (by omega)) ((lnq_div LNN.out LD.out (by omega)).2.mono (by omega))) ?_; clear E; rintro e wc E rfl; have q := E.cls; (repeat obtain ⟨_, _, q⟩ := q); clear q))
        refine bodyPost_ret (results_list (rs := [.tmp _, .tmp _]) rfl (by simp) (.tmp (.tmp .nil))) rfl ?_
        exact ⟨E.below, rfl⟩
  |false =>
   rw [parL_int hd hsl]
   obtain ⟨rfl, rfl, -⟩ := hsl.no rfl
   cases hx : dgs h with
   |false =>
    have HX := Aside0.mk hx
    rw [if_neg (by decide)]
    clear hx hd hsl hht
    show Calls Tryz.prog 13 #[Value.string s] W fun e w' => Below W.heap.size W w' ∧ e = .returned (.tuple #[.string ⟨#[]⟩, .int .i64 2])
    go_enter Tryz.func13, Tryz.ntmps13
    go_wp2_with (first | ((with_reducible first | refine gate_box (by rfl) ?_ | refine gate_alloc (by rfl) ?_); refine bx_ E ?_; clear E; intro gb wb E; have q := E.cls; (repeat obtain ⟨_, _, q⟩ := q); clear q) | ((with_reducible refine gate_stored (t := 77) (by rfl) ?_); refine st_ (fun ws hs_ => ?_); replace E := Env.pt2 hs_ E; clear hs_; have q := E.cls; (repeat obtain ⟨_, _, q⟩ := q); clear q) | (go_at_call 79; refine env_call E (cutp_calls _ s) ?_; clear E; rintro e wc E rfl; rw [HC.out]; have q := E.cls; (repeat obtain ⟨_, _, q⟩ := q); clear q) | (go_at_call 80; refine env_call E (cut_of _ (HF.out _) HRS.out) ?_; clear E; rintro e wc E rfl; (first | rw [F46.out] | rw [F47.out]); dsimp only; have q := E.cls; (repeat obtain ⟨_, _, q⟩ := q); clear q) | (go_at_call 82; refine env_call E (dgs_of HX.out) ?_; clear E; rintro e wc E rfl; have q := E.cls; (repeat obtain ⟨_, _, q⟩ := q); clear q))
    refine bodyPost_ret (results_list (rs := [.tmp _, .tmp _]) rfl (by simp) (.tmp (.tmp .nil))) rfl ?_
    exact ⟨E.below, rfl⟩
   |true =>
    have HX := Aside0.mk hx
    rw [if_pos rfl]
    obtain ⟨nn, hn⟩ : ∃ n, tv (bytesOf h) = n := ⟨_, rfl⟩
    obtain ⟨dd, hdd⟩ : ∃ d : Int, 1 = d := ⟨_, rfl⟩
    have PX := Aside0.mk (show (bytesOf h).all isd = true ∧ tv (bytesOf h) = nn ∧ h.size ≤ 9000000000000 from ⟨dgs_all hx, hn, by have := HR4.out; omega⟩)
    have PT := Aside0.mk (show (bytesOf (⟨#[49]⟩ : ByteArray)).all isd = true ∧ tv (bytesOf (⟨#[49]⟩ : ByteArray)) = dd ∧ (⟨#[49]⟩ : ByteArray).size ≤ 9000000000000 from ⟨by decide, by rw [← hdd]; decide, by decide⟩)
    have LN := Aside0.mk (show Ln nn 1000 by rw [← hn]; exact tv_ln (dgs_all hx) (by rw [bytesOf_size]; have := HR4.out; omega))
    have LD := Aside0.mk (show Ln dd 1000 by rw [← hdd]; exact ln_one.mono (by omega))
    have D0 := Aside0.mk (show dd ≠ 0 by omega)
    have hs0 : (sgnI dd == 0) = false := beq_eq_false_iff_ne.mpr (fun h => D0.out ((sgnI_zero _).1 h))
    rw [hn, hdd]
    clear hx hd hsl hht hn hdd
    cases mi with
    |true =>
     have LNN := Aside0.mk (show Ln (-nn) 1000 from LN.out.neg)
     show Calls Tryz.prog 13 #[Value.string s] W fun e w' => Below W.heap.size W w' ∧ e = .returned (.tuple #[.string (res (Rat.divInt (-nn) dd)).1, .int .i64 (res (Rat.divInt (-nn) dd)).2])
     go_enter Tryz.func13, Tryz.ntmps13
     go_wp2_with (first | ((with_reducible first | refine gate_box (by rfl) ?_ | refine gate_alloc (by rfl) ?_); refine bx_ E ?_; clear E; intro gb wb E; have q := E.cls; (repeat obtain ⟨_, _, q⟩ := q); clear q) | ((with_reducible refine gate_stored (t := 77) (by rfl) ?_); refine st_ (fun ws hs_ => ?_); replace E := Env.pt2 hs_ E; clear hs_; have q := E.cls; (repeat obtain ⟨_, _, q⟩ := q); clear q) | (go_at_call 79; refine env_call E (cutp_calls _ s) ?_; clear E; rintro e wc E rfl; rw [HC.out]; have q := E.cls; (repeat obtain ⟨_, _, q⟩ := q); clear q) | (go_at_call 80; refine env_call E (cut_of _ (HF.out _) HRS.out) ?_; clear E; rintro e wc E rfl; (first | rw [F46.out] | rw [F47.out]); dsimp only; have q := E.cls; (repeat obtain ⟨_, _, q⟩ := q); clear q) | (go_at_call 82; refine env_call E (dgs_of HX.out) ?_; clear E; rintro e wc E rfl; have q := E.cls; (repeat obtain ⟨_, _, q⟩ := q); clear q) | (go_at_call 83; refine env_call E (plain_of PX.out.1 PX.out.2.1 PX.out.2.2) ?_; clear E; rintro e wc E ⟨br, Ar, nr, cr, rfl, hw_⟩; replace E := E.wh hw_; clear hw_; have q := E.cls; (repeat obtain ⟨_, _, q⟩ := q); clear q) | (go_at_call 83; refine env_call E (plain_of PT.out.1 PT.out.2.1 PT.out.2.2) ?_; clear E; rintro e wc E ⟨br, Ar, nr, cr, rfl, hw_⟩; replace E := E.wh hw_; clear hw_; have q := E.cls; (repeat obtain ⟨_, _, q⟩ := q); clear q) | (go_at_call 84; refine env_call E (sign_calls E.getW) ?_; clear E; rintro e wc E rfl; have q := E.cls; (repeat obtain ⟨_, _, q⟩ := q); clear q) | (go_at_call 86; refine env_call E (neg_calls E.getW) ?_; clear E; rintro e wc E ⟨br, Ar, nr, cr, rfl, hw_⟩; replace E := E.wh hw_; clear hw_; have q := E.cls; (repeat obtain ⟨_, _, q⟩ := q); clear q) | (go_at_call 88; refine env_call E (over_calls (m := -nn) (d := dd) E.getW E.getW D0.out (LNN.out.fits (by omega)) (LD.out.fits (by omega))) ?_; clear E; rintro e wc E ⟨br, Ar, nr, cr, br2, Ar2, nr2, cr2, rfl, hw_, hw2_⟩; replace E := (E.wh hw_).wh hw2_; clear hw_ hw2_; have q := E.cls; (repeat obtain ⟨_, _, q⟩ := q); clear q) | (go_at_call 87; refine env_call E (result_calls (q := Rat.divInt (-nn) dd) E.getW E.getW rfl (dn_den _) ((lnq_div LNN.out LD.out (by omega)).1.mono (by omega)) ((lnq_div LNN.out LD.out (by omega)).2.mono (by omega))) ?_; clear E; rintro e wc E rfl; have q := E.cls; (repeat obtain ⟨_, _, q⟩ := q); clear q))
     refine bodyPost_ret (results_list (rs := [.tmp _, .tmp _]) rfl (by simp) (.tmp (.tmp .nil))) rfl ?_
     exact ⟨E.below, rfl⟩
    |false =>
     have LNN := Aside0.mk (show Ln (nn) 1000 from LN.out)
     show Calls Tryz.prog 13 #[Value.string s] W fun e w' => Below W.heap.size W w' ∧ e = .returned (.tuple #[.string (res (Rat.divInt (nn) dd)).1, .int .i64 (res (Rat.divInt (nn) dd)).2])
     go_enter Tryz.func13, Tryz.ntmps13
     go_wp2_with (first | ((with_reducible first | refine gate_box (by rfl) ?_ | refine gate_alloc (by rfl) ?_); refine bx_ E ?_; clear E; intro gb wb E; have q := E.cls; (repeat obtain ⟨_, _, q⟩ := q); clear q) | ((with_reducible refine gate_stored (t := 77) (by rfl) ?_); refine st_ (fun ws hs_ => ?_); replace E := Env.pt2 hs_ E; clear hs_; have q := E.cls; (repeat obtain ⟨_, _, q⟩ := q); clear q) | (go_at_call 79; refine env_call E (cutp_calls _ s) ?_; clear E; rintro e wc E rfl; rw [HC.out]; have q := E.cls; (repeat obtain ⟨_, _, q⟩ := q); clear q) | (go_at_call 80; refine env_call E (cut_of _ (HF.out _) HRS.out) ?_; clear E; rintro e wc E rfl; (first | rw [F46.out] | rw [F47.out]); dsimp only; have q := E.cls; (repeat obtain ⟨_, _, q⟩ := q); clear q) | (go_at_call 82; refine env_call E (dgs_of HX.out) ?_; clear E; rintro e wc E rfl; have q := E.cls; (repeat obtain ⟨_, _, q⟩ := q); clear q) | (go_at_call 83; refine env_call E (plain_of PX.out.1 PX.out.2.1 PX.out.2.2) ?_; clear E; rintro e wc E ⟨br, Ar, nr, cr, rfl, hw_⟩; replace E := E.wh hw_; clear hw_; have q := E.cls; (repeat obtain ⟨_, _, q⟩ := q); clear q) | (go_at_call 83; refine env_call E (plain_of PT.out.1 PT.out.2.1 PT.out.2.2) ?_; clear E; rintro e wc E ⟨br, Ar, nr, cr, rfl, hw_⟩; replace E := E.wh hw_; clear hw_; have q := E.cls; (repeat obtain ⟨_, _, q⟩ := q); clear q) | (go_at_call 84; refine env_call E (sign_calls E.getW) ?_; clear E; rintro e wc E rfl; have q := E.cls; (repeat obtain ⟨_, _, q⟩ := q); clear q) | (go_at_call 88; refine env_call E (over_calls (m := nn) (d := dd) E.getW E.getW D0.out (LNN.out.fits (by omega)) (LD.out.fits (by omega))) ?_; clear E; rintro e wc E ⟨br, Ar, nr, cr, br2, Ar2, nr2, cr2, rfl, hw_, hw2_⟩; replace E := (E.wh hw_).wh hw2_; clear hw_ hw2_; have q := E.cls; (repeat obtain ⟨_, _, q⟩ := q); clear q) | (go_at_call 87; refine env_call E (result_calls (q := Rat.divInt (nn) dd) E.getW E.getW rfl (dn_den _) ((lnq_div LNN.out LD.out (by omega)).1.mono (by omega)) ((lnq_div LNN.out LD.out (by omega)).2.mono (by omega))) ?_; clear E; rintro e wc E rfl; have q := E.cls; (repeat obtain ⟨_, _, q⟩ := q); clear q))
     refine bodyPost_ret (results_list (rs := [.tmp _, .tmp _]) rfl (by simp) (.tmp (.tmp .nil))) rfl ?_
     exact ⟨E.below, rfl⟩
end Go.Proofs.YtfmcgammhfdfnaaGreatDoor.PRatio
namespace Go.Proofs.YtfmcgammhfdfnaaGreatDoor.PRatio
open Go.RowKit Go.Proofs.YtfmcgammhfdfnaaGreatDoorW.PrintWords
set_option linter.unusedVariables false
set_option linter.unusedSimpArgs false
theorem rv_RT {q : Rat} (h : lgq q = false) : rv (RT q) = some q := by
 unfold rv
 rw [bytesOf_RT, rat?_rtx]
 simp [h]
theorem rv_of {s : ByteArray} {q : Rat} (h : rat? (bytesOf s) = some q) (hl : lgq q = false) : rv s = some q := by
 unfold rv
 rw [h]
 simp [hl]
def Lq (q : Rat) (k : Nat) : Prop := q.num.natAbs < 10 ^ k ∧ q.den < 10 ^ k
theorem Lq.mono {q : Rat} {a b : Nat} (h : Lq q a) (hab : a ≤ b) : Lq q b :=
 ⟨Nat.lt_of_lt_of_le h.1 (Nat.pow_le_pow_right (by decide) hab), Nat.lt_of_lt_of_le h.2 (Nat.pow_le_pow_right (by decide) hab)⟩
theorem Lq.lg {q : Rat} {k : Nat} (h : Lq q k) (hk : k ≤ 1000) : lgq q = false := by
 have h1 : Lg q.num = false := decide_eq_false (by have := (nd_le k _).2 h.1; omega)
 have h2 : Lg (q.den : Int) = false := decide_eq_false (by rw [Int.natAbs_natCast]; have := (nd_le k _).2 h.2; omega)
 unfold lgq
 rw [h1, h2]
 rfl
theorem lq_div {n d : Int} {k : Nat} (hn : n.natAbs < 10 ^ k) (hd : d.natAbs < 10 ^ k) (hk : 1 ≤ k) : Lq (Rat.divInt n d) k := by
 have h := divInt_le n d
 refine ⟨Nat.lt_of_le_of_lt h.1 hn, ?_⟩
 have h1 : 1 < 10 ^ k := Nat.one_lt_pow (by omega) (by decide)
 omega
theorem lq_neg {x : Rat} {a : Nat} (hx : Lq x a) : Lq (-x) a := by
 unfold Lq
 rw [Rat.neg_num, Rat.neg_den, Int.natAbs_neg]
 exact hx
theorem res_ok {q : Rat} (h : lgq q = false) : res q = (RT q, 0) := by
 unfold res resA resE
 simp [h]
theorem ev_RT {q : Rat} (h : lgq q = false) : ev (RT q) = some (some q) := by
 unfold ev
 rw [if_neg, rv_RT h]
 ·rfl
 ·intro e
  have h1 := rv_RT h
  rw [e] at h1
  have h2 : rv infS = none := by decide +kernel
  rw [h2] at h1
  cases h1
theorem RT_zero_iff {q : Rat} : RT q = ⟨#[48]⟩ ↔ q = 0 := by
 have h : RT 0 = ⟨#[48]⟩ := by decide +kernel
 constructor
 ·intro e
  rw [← h] at e
  exact RT_inj e
 ·rintro rfl
  exact h
end Go.Proofs.YtfmcgammhfdfnaaGreatDoor.PRatio
namespace Go.Proofs.YtfmcgammhfdfnaaGreatDoor.PRatio
open Go.RowKit Go.Proofs.YtfmcgammhfdfnaaGreatDoorW.PrintWords Go.Proofs.YtfmcgammhfdfnaaGreatDoorW.PrintLast Go.Proofs.YtfmcgammhfdfnaaGreatDoorW.PrintMore
set_option linter.unusedVariables false
set_option linter.unusedSimpArgs false
set_option maxHeartbeats 8000000
set_option maxRecDepth 100000
theorem is_calls (W : World) (x w : ByteArray) (e : Int) : Calls Tryz.prog 23 #[.string x, .int .i64 e, .string w] W fun en w' => Below W.heap.size W w' ∧ en = .returned (.bool (x.toList == w.toList && e == 0)) := by
 have E := Env.start W
 cases h : x.toList == w.toList with
 |false =>
  go_enter Tryz.func23, Tryz.ntmps23
  go_wp2
  go_ret
  exact ⟨E.below, rfl⟩
 |true =>
  go_enter Tryz.func23, Tryz.ntmps23
  go_wp2
  go_ret
  exact ⟨E.below, rfl⟩
theorem is_same (W : World) (x : ByteArray) : Calls Tryz.prog 23 #[.string x, .int .i64 0, .string x] W fun en w' => Below W.heap.size W w' ∧ en = .returned (.bool true) := by
 have := is_calls W x x 0
 rwa [beq_self_eq_true] at this
theorem lg_of {q : Rat} (h : q.num.natAbs < 10 ^ 9 ∧ q.den < 10 ^ 9) : lgq q = false := Lq.lg (k := 9) h (by decide)
theorem rt_of {s : ByteArray} {q : Rat} (h : rat? (bytesOf s) = some q) : RT q = s := (rat?_RT h).symm
theorem aw1 : two ⟨#[49, 47, 50]⟩ ⟨#[49, 47, 51]⟩ (fun x y => res (x + y)) = (⟨#[53, 47, 54]⟩, 0) := by
 unfold two
 rw [rv_of (q := 1 / 2) (by decide +kernel) (lg_of (by decide +kernel)), rv_of (q := 1 / 3) (by decide +kernel) (lg_of (by decide +kernel))]
 show res (1 / 2 + 1 / 3) = _
 rw [res_ok (lg_of (by decide +kernel)), rt_of (s := ⟨#[53, 47, 54]⟩) (by decide +kernel)]
theorem aw2 : simpS ⟨#[49, 47, 51]⟩ ⟨#[51, 47, 53]⟩ = (⟨#[49, 47, 50]⟩, 0) := by
 unfold simpS ends2 ev
 rw [if_neg (by decide), if_neg (by decide), rv_of (q := 1 / 3) (by decide +kernel) (lg_of (by decide +kernel)), rv_of (q := 3 / 5) (by decide +kernel) (lg_of (by decide +kernel))]
 show (if (3 / 5 : Rat) < 1 / 3 then ((⟨#[]⟩, 1) : ByteArray × Int) else if 0 < (1 / 3 : Rat).num then (RT (simQ (1 / 3) (some (3 / 5))), 0) else if (3 / 5 : Rat).num < 0 then (RT (-simQ (-(3 / 5)) (some (-(1 / 3)))), 0) else (⟨#[48]⟩, 0)) = _
 rw [if_neg (by decide +kernel), if_pos (by decide +kernel), rt_of (s := ⟨#[49, 47, 50]⟩) (by decide +kernel)]
theorem aw3 : parS ⟨#[45, 48, 48, 54, 47, 52]⟩ = (⟨#[45, 51, 47, 50]⟩, 0) := by
 unfold parS
 rw [if_neg (by decide)]
 have h1 : cutm ⟨#[45, 48, 48, 54, 47, 52]⟩ = (⟨#[48, 48, 54, 47, 52]⟩, true) := by decide +kernel
 have h2 : parL (bytesOf ⟨#[48, 48, 54, 47, 52]⟩) = .ok (6, 4) := rfl
 rw [h1, h2]
 show res (Rat.divInt (if true = true then -6 else 6) 4) = _
 rw [res_ok (lg_of (by decide +kernel)), rt_of (s := ⟨#[45, 51, 47, 50]⟩) (by decide +kernel)]
theorem aw4 : rv ⟨#[45, 49, 47, 50]⟩ = some (-1 / 2) := rv_of (by decide +kernel) (lg_of (by decide +kernel))
theorem aw4' : TX (-1 / 2 : Rat).floor = ⟨#[45, 49]⟩ := (int?_TX (by decide +kernel)).symm
theorem aw5 : ends2 ⟨#[55]⟩ ⟨#[105, 110, 102]⟩ = some (some 7, none) := by
 unfold ends2 ev
 rw [if_neg (by decide), if_pos (by decide), rv_of (q := 7) (by decide +kernel) (lg_of (by decide +kernel))]
 rfl
theorem aw6 : rv ⟨#[50, 47, 52]⟩ = none := by unfold rv; rw [show rat? (bytesOf ⟨#[50, 47, 52]⟩) = none by decide +kernel]; rfl
theorem aw7 : rv ⟨#[48, 47, 53]⟩ = none := by unfold rv; rw [show rat? (bytesOf ⟨#[48, 47, 53]⟩) = none by decide +kernel]; rfl
theorem aw8 : ends2 ⟨#[49, 47, 51]⟩ ⟨#[50, 47, 53]⟩ = some (some (1 / 3), some (2 / 5)) := by
 unfold ends2 ev
 rw [if_neg (by decide), if_neg (by decide), rv_of (q := 1 / 3) (by decide +kernel) (lg_of (by decide +kernel)), rv_of (q := 2 / 5) (by decide +kernel) (lg_of (by decide +kernel))]
 rfl
theorem wa1 (W : World) : Calls Tryz.prog 66 #[.string ⟨#[49, 47, 50]⟩, .string ⟨#[49, 47, 51]⟩] W fun e w' => Below W.heap.size W w' ∧ e = .returned (.tuple #[.string ⟨#[53, 47, 54]⟩, .int .i64 0]) := by
 have := radde_calls W ⟨#[49, 47, 50]⟩ ⟨#[49, 47, 51]⟩ (by decide) (by decide)
 rwa [aw1] at this
theorem wa2 (W : World) : Calls Tryz.prog 27 #[.string ⟨#[49, 47, 51]⟩, .string ⟨#[51, 47, 53]⟩] W fun e w' => Below W.heap.size W w' ∧ e = .returned (.tuple #[.string ⟨#[49, 47, 50]⟩, .int .i64 0]) := by
 have := simpe_calls W ⟨#[49, 47, 51]⟩ ⟨#[51, 47, 53]⟩ (by decide) (by decide)
 rwa [aw2] at this
theorem wa3 (W : World) : Calls Tryz.prog 13 #[.string ⟨#[45, 48, 48, 54, 47, 52]⟩] W fun e w' => Below W.heap.size W w' ∧ e = .returned (.tuple #[.string ⟨#[45, 51, 47, 50]⟩, .int .i64 0]) := by
 have := parse_calls W ⟨#[45, 48, 48, 54, 47, 52]⟩ (by decide)
 rwa [aw3] at this
theorem wa4 (W : World) : Calls Tryz.prog 36 #[.string ⟨#[45, 49, 47, 50]⟩] W fun e w' => Below W.heap.size W w' ∧ e = .returned (.tuple #[.string ⟨#[45, 49]⟩, .int .i64 0]) := by
 have := rfloor_calls W ⟨#[45, 49, 47, 50]⟩ (by decide)
 rw [aw4] at this
 simp only [Option.elim, aw4'] at this
 exact this
theorem wa5 (W : World) : Calls Tryz.prog 33 #[.string ⟨#[55]⟩, .string ⟨#[105, 110, 102]⟩] W fun e w' => Below W.heap.size W w' ∧ e = .returned (.string ⟨#[105, 110, 102]⟩) := by
 have := maxe_calls W ⟨#[55]⟩ ⟨#[105, 110, 102]⟩ (by decide) (by decide)
 rw [aw5] at this
 simp only [Option.elim] at this
 rwa [if_pos (by decide +kernel)] at this
theorem wa6 (W : World) {a : ByteArray} (h : a = ⟨#[50, 47, 52]⟩ ∨ a = ⟨#[48, 47, 53]⟩) : Calls Tryz.prog 50 #[.string a] W fun e w' => Below W.heap.size W w' ∧ e = .returned (.bool false) := by
 have := rvalid_calls W a (by rcases h with rfl | rfl <;> decide)
 have hr : rv a = none := by rcases h with rfl | rfl; exact aw6; exact aw7
 rwa [hr] at this
theorem wa8 (W : World) : Calls Tryz.prog 29 #[.string ⟨#[49, 47, 51]⟩, .string ⟨#[50, 47, 53]⟩] W fun e w' => Below W.heap.size W w' ∧ e = .returned (.int .i64 (-1)) := by
 have := cmpe_calls W ⟨#[49, 47, 51]⟩ ⟨#[50, 47, 53]⟩ (by decide) (by decide)
 rw [aw8] at this
 simp only [Option.elim] at this
 rwa [show ce (some (1 / 3)) (some (2 / 5)) = -1 by decide +kernel] at this
theorem awake_calls (W : World) : Calls Tryz.prog 15 #[] W fun e w' => Below W.heap.size W w' ∧ e = .returned (.bool true) := by
 have E := Env.start W
 go_enter Tryz.func15, Tryz.ntmps15
 go_wp2_with (first | (go_at_call 66; refine env_call E (wa1 _) ?_; clear E; rintro e wc E rfl; have q := E.cls; (repeat obtain ⟨_, _, q⟩ := q); clear q) | (go_at_call 27; refine env_call E (wa2 _) ?_; clear E; rintro e wc E rfl; have q := E.cls; (repeat obtain ⟨_, _, q⟩ := q); clear q) | (go_at_call 13; refine env_call E (wa3 _) ?_; clear E; rintro e wc E rfl; have q := E.cls; (repeat obtain ⟨_, _, q⟩ := q); clear q) | (go_at_call 36; refine env_call E (wa4 _) ?_; clear E; rintro e wc E rfl; have q := E.cls; (repeat obtain ⟨_, _, q⟩ := q); clear q) | (go_at_call 33; refine env_call E (wa5 _) ?_; clear E; rintro e wc E rfl; have q := E.cls; (repeat obtain ⟨_, _, q⟩ := q); clear q) | (go_at_call 50; refine env_call E (wa6 _ (by decide)) ?_; clear E; rintro e wc E rfl; have q := E.cls; (repeat obtain ⟨_, _, q⟩ := q); clear q) | (go_at_call 29; refine env_call E (wa8 _) ?_; clear E; rintro e wc E rfl; have q := E.cls; (repeat obtain ⟨_, _, q⟩ := q); clear q) | (go_at_call 23; refine env_call E (is_same _ _) ?_; clear E; rintro e wc E rfl; have q := E.cls; (repeat obtain ⟨_, _, q⟩ := q); clear q))
 go_ret
 exact ⟨E.below, rfl⟩
abbrev CT (f : Nat) (R : ByteArray → ByteArray → ByteArray → Prop) : Prop := ∀ (W : World) (u v r : ByteArray), R u v r → Calls Tryz.prog f #[.string u, .string v] W fun e w' => Below W.heap.size W w' ∧ e = .returned (.string r)
abbrev CU (f : Nat) (R : ByteArray → ByteArray → Prop) : Prop := ∀ (W : World) (u r : ByteArray), R u r → Calls Tryz.prog f #[.string u] W fun e w' => Below W.heap.size W w' ∧ e = .returned (.string r)
abbrev CI (f : Nat) (R : ByteArray → ByteArray → Int → Prop) : Prop := ∀ (W : World) (u v : ByteArray) (r : Int), R u v r → Calls Tryz.prog f #[.string u, .string v] W fun e w' => Below W.heap.size W w' ∧ e = .returned (.int .i64 r)
abbrev CE (f : Nat) (R : ByteArray → ByteArray → ByteArray → Prop) : Prop := ∀ (W : World) (u v r : ByteArray), R u v r → Calls Tryz.prog f #[.string u, .string v] W fun e w' => Below W.heap.size W w' ∧ e = .returned (.tuple #[.string r, .int .i64 0])
abbrev CB (f : Nat) (R : ByteArray → ByteArray → Bool → Prop) : Prop := ∀ (W : World) (u v : ByteArray) (r : Bool), R u v r → Calls Tryz.prog f #[.string u, .string v] W fun e w' => Below W.heap.size W w' ∧ e = .returned (.bool r)
structure SmpF (De Nu Ab : ByteArray → ByteArray → Prop) (Cw : ByteArray → ByteArray → Int → Prop) (x y dx dy nx ny ax ay : ByteArray) (d n : Int) : Prop where
 d1 : De x dx
 d2 : De y dy
 n1 : Nu x nx
 n2 : Nu y ny
 a1 : Ab nx ax
 a2 : Ab ny ay
 c1 : Cw dx dy d
 c2 : Cw ax ay n
theorem simpler_walk {x y dx dy nx ny ax ay : ByteArray} {d n g h : Int} {De Nu Ab : ByteArray → ByteArray → Prop} {Cw : ByteArray → ByteArray → Int → Prop} {Sg : ByteArray → Int → Prop}
  (HD : CU 28 De) (HN : CU 54 Nu) (HA : CU 76 Ab) (HC : CI 126 Cw)
  (HG : ∀ (W : World) (u : ByteArray) (r : Int), Sg u r → Calls Tryz.prog 31 #[.string u] W fun e w' => Below W.heap.size W w' ∧ e = .returned (.int .i64 r))
  (F : SmpF De Nu Ab Cw x y dx dy nx ny ax ay d n) (g1 : Sg x g) (g2 : Sg y h) (W : World) :
  Calls Tryz.prog 40 #[.string x, .string y] W fun e w' => Below W.heap.size W w' ∧ e = .returned (.bool (decide (d < 0) || (d == 0 && (decide (n < 0) || (n == 0 && decide (h < g)))))) := by
 have E := Env.start W
 have FF := Aside0.mk (And.intro HD (And.intro HN (And.intro HA (And.intro HC HG))))
 have FA := Aside0.mk F
 have G1 := Aside0.mk g1
 have G2 := Aside0.mk g2
 clear HD HN HA HC HG F g1 g2
 have key : (decide (d < 0) = true ∧ (d < 0) = True) ∨ ((decide (d < 0) = false ∧ (d < 0) = False) ∧ (d == 0) = false ∧ (d = 0) = False) ∨ ((decide (d < 0) = false ∧ (d < 0) = False) ∧ ((d == 0) = true ∧ d = 0) ∧ (decide (n < 0) = true ∧ (n < 0) = True)) ∨ ((decide (d < 0) = false ∧ (d < 0) = False) ∧ ((d == 0) = true ∧ d = 0) ∧ (decide (n < 0) = false ∧ (n < 0) = False) ∧ (n == 0) = false ∧ (n = 0) = False) ∨
   ((decide (d < 0) = false ∧ (d < 0) = False) ∧ ((d == 0) = true ∧ d = 0) ∧ (decide (n < 0) = false ∧ (n < 0) = False) ∧ ((n == 0) = true ∧ n = 0) ∧ decide (h < g) = true ∧ (h < g) = True) ∨ ((decide (d < 0) = false ∧ (d < 0) = False) ∧ ((d == 0) = true ∧ d = 0) ∧ (decide (n < 0) = false ∧ (n < 0) = False) ∧ ((n == 0) = true ∧ n = 0) ∧ decide (h < g) = false ∧ (h < g) = False) := by
  by_cases a : d < 0
  ·exact .inl ⟨decide_eq_true a, eq_true a⟩
  ·by_cases b : d = 0
   ·by_cases c : n < 0
    ·exact .inr (.inr (.inl ⟨⟨decide_eq_false a, eq_false a⟩, ⟨by simp [b], b⟩, decide_eq_true c, eq_true c⟩))
    ·by_cases e : n = 0
     ·by_cases f : h < g
      ·exact .inr (.inr (.inr (.inr (.inl ⟨⟨decide_eq_false a, eq_false a⟩, ⟨by simp [b], b⟩, ⟨decide_eq_false c, eq_false c⟩, ⟨by simp [e], e⟩, decide_eq_true f, eq_true f⟩))))
      ·exact .inr (.inr (.inr (.inr (.inr ⟨⟨decide_eq_false a, eq_false a⟩, ⟨by simp [b], b⟩, ⟨decide_eq_false c, eq_false c⟩, ⟨by simp [e], e⟩, decide_eq_false f, eq_false f⟩))))
     ·exact .inr (.inr (.inr (.inl ⟨⟨decide_eq_false a, eq_false a⟩, ⟨by simp [b], b⟩, ⟨decide_eq_false c, eq_false c⟩, by simp [e], eq_false e⟩)))
   ·exact .inr (.inl ⟨⟨decide_eq_false a, eq_false a⟩, by simp [b], eq_false b⟩)
 rcases key with ⟨k1, k2⟩ | ⟨⟨k1, k2⟩, k3, k4⟩ | ⟨⟨k1, k2⟩, ⟨k3, rfl⟩, k5, k6⟩ | ⟨⟨k1, k2⟩, ⟨k3, rfl⟩, ⟨k5, k6⟩, k7, k8⟩ | ⟨⟨k1, k2⟩, ⟨k3, rfl⟩, ⟨k5, k6⟩, ⟨k7, rfl⟩, k9, ka⟩ | ⟨⟨k1, k2⟩, ⟨k3, rfl⟩, ⟨k5, k6⟩, ⟨k7, rfl⟩, k9, ka⟩
 all_goals go_enter Tryz.func40, Tryz.ntmps40
 all_goals (go_wp2_with (first | (go_at_call 28; refine env_call E (FF.out.1 _ _ _ (by first | exact FA.out.d1 | exact FA.out.d2)) ?_; clear E; rintro e wc E rfl; have q := E.cls; (repeat obtain ⟨_, _, q⟩ := q); clear q) | (go_at_call 54; refine env_call E (FF.out.2.1 _ _ _ (by first | exact FA.out.n1 | exact FA.out.n2)) ?_; clear E; rintro e wc E rfl; have q := E.cls; (repeat obtain ⟨_, _, q⟩ := q); clear q) | (go_at_call 76; refine env_call E (FF.out.2.2.1 _ _ _ (by first | exact FA.out.a1 | exact FA.out.a2)) ?_; clear E; rintro e wc E rfl; have q := E.cls; (repeat obtain ⟨_, _, q⟩ := q); clear q) | (go_at_call 126; refine env_call E (FF.out.2.2.2.1 _ _ _ _ (by first | exact FA.out.c1 | exact FA.out.c2)) ?_; clear E; rintro e wc E rfl; have q := E.cls; (repeat obtain ⟨_, _, q⟩ := q); clear q) | (go_at_call 31; refine env_call E (FF.out.2.2.2.2 _ _ _ (by first | exact G1.out | exact G2.out)) ?_; clear E; rintro e wc E rfl; have q := E.cls; (repeat obtain ⟨_, _, q⟩ := q); clear q)))
 all_goals refine bodyPost_ret (results_single rfl (.tmp .nil)) rfl ?_
 all_goals exact ⟨E.below, by simp [*]⟩
structure SpF (Ls Gr Si : ByteArray → ByteArray → ByteArray → Prop) (Cp Co : ByteArray → ByteArray → Int → Prop) (Sp : ByteArray → ByteArray → Bool → Prop) (Ng De : ByteArray → ByteArray → Prop) (x y z lo hi s nlo nhi ns u : ByteArray) (c1 c2 c3 p q : Int) (r : Bool) : Prop where
 l : Ls x y lo
 g : Gr x y hi
 i1 : Si lo hi s
 i2 : Si nhi nlo ns
 i3 : Si lo ⟨#[105, 110, 102]⟩ u
 c1 : Cp s lo c1
 c2 : Cp s hi c2
 c3 : Cp u lo c3
 o1 : Co lo z p
 o2 : Co z hi q
 p1 : Sp lo s false
 p2 : Sp hi s false
 p3 : Sp z s r
 n1 : Ng hi nhi
 n2 : Ng lo nlo
 n3 : Ng s ns
 d1 : De u ⟨#[49]⟩
theorem splst_walk {A0 A1 B0 B1 C0 C1 x y z lo hi s nlo nhi ns u : ByteArray} {c1 c2 c3 p q : Int} {r : Bool} {Ft Ls Gr Si : ByteArray → ByteArray → ByteArray → Prop} {Cp Co : ByteArray → ByteArray → Int → Prop} {Sp : ByteArray → ByteArray → Bool → Prop} {Ng De : ByteArray → ByteArray → Prop}
  (HF : ∀ (W : World) (u v r : ByteArray), Ft u v r → Calls Tryz.prog 18 #[.string u, .string v, .int .i64 30] W fun e w' => Below W.heap.size W w' ∧ e = .returned (.string r))
  (HL : CT 38 Ls) (HG : CT 39 Gr) (HI : CE 27 Si) (HC : CI 29 Cp) (HO : CI 41 Co) (HS : CB 40 Sp) (HN : CU 24 Ng) (HD : CU 28 De)
  (f1 : Ft A0 A1 x) (f2 : Ft B0 B1 y) (f3 : Ft C0 C1 z) (F : SpF Ls Gr Si Cp Co Sp Ng De x y z lo hi s nlo nhi ns u c1 c2 c3 p q r)
  (h1 : ¬ c1 < 0) (h2 : ¬ 0 < c2) (h3 : 0 ≤ c3) (hr : p ≤ 0 → q ≤ 0 → r = false) (W : World) :
  Calls Tryz.prog 8 #[.agg #[.string A0, .string A1], .agg #[.string B0, .string B1], .agg #[.string C0, .string C1]] W fun e w' => Below W.heap.size W w' ∧ e = .returned (.bool true) := by
 have E := Env.start W
 have FF := Aside0.mk (And.intro HF (And.intro HL (And.intro HG (And.intro HI (And.intro HC (And.intro HO (And.intro HS (And.intro HN HD))))))))
 have F1 := Aside0.mk f1
 have F2 := Aside0.mk f2
 have F3 := Aside0.mk f3
 have FA := Aside0.mk F
 clear HF HL HG HI HC HO HS HN HD f1 f2 f3 F
 have k1 : decide (c1 < 0) = false := decide_eq_false h1
 have k1' : (c1 < 0) = False := eq_false h1
 have k2 : decide (0 < c2) = false := decide_eq_false h2
 have k2' : (0 < c2) = False := eq_false h2
 have k3 : decide (0 ≤ c3) = true := decide_eq_true h3
 have k3' : (0 ≤ c3) = True := eq_true h3
 have key : (decide (p ≤ 0) = false ∧ (p ≤ 0) = False) ∨ ((decide (p ≤ 0) = true ∧ (p ≤ 0) = True) ∧ decide (q ≤ 0) = false ∧ (q ≤ 0) = False) ∨ ((decide (p ≤ 0) = true ∧ (p ≤ 0) = True) ∧ (decide (q ≤ 0) = true ∧ (q ≤ 0) = True) ∧ r = false) := by
  by_cases a : p ≤ 0
  ·by_cases b : q ≤ 0
   ·exact .inr (.inr ⟨⟨decide_eq_true a, eq_true a⟩, ⟨decide_eq_true b, eq_true b⟩, hr a b⟩)
   ·exact .inr (.inl ⟨⟨decide_eq_true a, eq_true a⟩, decide_eq_false b, eq_false b⟩)
  ·exact .inl ⟨decide_eq_false a, eq_false a⟩
 clear h1 h2 h3 hr
 rcases key with ⟨k4, k5⟩ | ⟨⟨k4, k5⟩, k6, k7⟩ | ⟨⟨k4, k5⟩, ⟨k6, k7⟩, rfl⟩
 all_goals go_enter Tryz.func8, Tryz.ntmps8
 all_goals go_upto_block 1 with (first | ((with_reducible first | refine gate_box (by rfl) ?_ | refine gate_alloc (by rfl) ?_); refine bx_ E ?_; clear E; intro gb wb E; have q := E.cls; (repeat obtain ⟨_, _, q⟩ := q); clear q))
 all_goals (refine start_ (id := 1) (n := 18) (S := fun w' => Cls w' _) (ds := []) (bz 18 0) (by kernel_rfl) rfl rfl E.draw.cls (fun hH => ?_); replace E := E.draw; refine pu_ 0 (some 18) (bz 18 1) ?_; refine pu_ 2 (some 20) (bz 18 5) ?_; refine pu_ 5 (some 23) (bz 18 37) ?_; refine pu_ 7 (some 25) (bz 18 165) ?_; refine pu_ 10 (some 28) (bz 18 1189) ?_; refine pu_ 12 (some 30) (bz 18 5285) ?_; refine ta_ 1 (some 19) (bz 18 5287) hH ?_; refine ta_ 3 (some 21) (bz 18 5295) hH ?_; refine ta_ 6 (some 24) (bz 18 5359) hH ?_; refine ta_ 8 (some 26) (bz 18 5615) hH ?_; refine ta_ 11 (some 29) (bz 18 7663) hH ?_; refine ta_ 13 (some 31) (bz 18 15855) hH ?_; refine on_ 4 (some 22) (bz 18 15871) (fun K hK => ?_); refine gs_ Tryz.func18 ?_; refine env_call E (FF.out.1 _ _ _ _ F1.out) ?_; clear E; rintro e wc E rfl; refine ⟨_, rfl, ?_⟩; refine hK.out _ _ E.cls (fun hH => ?_); clear hK K; refine nm_ (some 22) ?_; refine on_ 9 (some 27) (bz 18 16383) (fun K hK => ?_); refine gs_ Tryz.func18 ?_; refine env_call E (FF.out.1 _ _ _ _ F2.out) ?_; clear E; rintro e wc E rfl; refine ⟨_, rfl, ?_⟩; refine hK.out _ _ E.cls (fun hH => ?_); clear hK K; refine nm_ (some 27) ?_; refine on_ 14 (some 32) (bz 18 32767) (fun K hK => ?_); refine gs_ Tryz.func18 ?_; refine env_call E (FF.out.1 _ _ _ _ F3.out) ?_; clear E; rintro e wc E rfl; refine ⟨_, rfl, ?_⟩; refine hK.out _ _ E.cls (fun hH => ?_); clear hK K; refine nm_ (some 32) ?_; refine pu_ 15 (some 7) (bz 18 65535) ?_; refine pu_ 16 (some 8) (bz 18 131071) ?_; refine pu_ 17 (some 9) (bz 18 262143) ?_; refine done_ (by kernel_rfl) ?_; all_goals (have q := E.cls; (repeat obtain ⟨_, _, q⟩ := q); clear q))
 all_goals (go_wp2_with (first | (go_at_call 38; refine env_call E (FF.out.2.1 _ _ _ _ FA.out.l) ?_; clear E; rintro e wc E rfl; have q := E.cls; (repeat obtain ⟨_, _, q⟩ := q); clear q) | (go_at_call 39; refine env_call E (FF.out.2.2.1 _ _ _ _ FA.out.g) ?_; clear E; rintro e wc E rfl; have q := E.cls; (repeat obtain ⟨_, _, q⟩ := q); clear q) | (go_at_call 27; refine env_call E (FF.out.2.2.2.1 _ _ _ _ (by first | exact FA.out.i1 | exact FA.out.i2 | exact FA.out.i3)) ?_; clear E; rintro e wc E rfl; have q := E.cls; (repeat obtain ⟨_, _, q⟩ := q); clear q) | (go_at_call 29; refine env_call E (FF.out.2.2.2.2.1 _ _ _ _ (by first | exact FA.out.c1 | exact FA.out.c2 | exact FA.out.c3)) ?_; clear E; rintro e wc E rfl; have q := E.cls; (repeat obtain ⟨_, _, q⟩ := q); clear q) | (go_at_call 41; refine env_call E (FF.out.2.2.2.2.2.1 _ _ _ _ (by first | exact FA.out.o1 | exact FA.out.o2)) ?_; clear E; rintro e wc E rfl; have q := E.cls; (repeat obtain ⟨_, _, q⟩ := q); clear q) | (go_at_call 40; refine env_call E (FF.out.2.2.2.2.2.2.1 _ _ _ _ (by first | exact FA.out.p1 | exact FA.out.p2 | exact FA.out.p3)) ?_; clear E; rintro e wc E rfl; have q := E.cls; (repeat obtain ⟨_, _, q⟩ := q); clear q) | (go_at_call 24; refine env_call E (FF.out.2.2.2.2.2.2.2.1 _ _ _ (by first | exact FA.out.n1 | exact FA.out.n2 | exact FA.out.n3)) ?_; clear E; rintro e wc E rfl; have q := E.cls; (repeat obtain ⟨_, _, q⟩ := q); clear q) | (go_at_call 28; refine env_call E (FF.out.2.2.2.2.2.2.2.2 _ _ _ FA.out.d1) ?_; clear E; rintro e wc E rfl; have q := E.cls; (repeat obtain ⟨_, _, q⟩ := q); clear q) | (go_at_call 23; refine env_call E (is_same _ _) ?_; clear E; rintro e wc E rfl; have q := E.cls; (repeat obtain ⟨_, _, q⟩ := q); clear q) | (go_at_call 15; refine env_call E (awake_calls _) ?_; clear E; rintro e wc E rfl; have q := E.cls; (repeat obtain ⟨_, _, q⟩ := q); clear q)))
 all_goals refine bodyPost_ret (results_single rfl (.tmp .nil)) rfl ?_
 all_goals exact ⟨E.below, rfl⟩
attribute [local go_sem] max2_int min2_int max_two min_two max_three min_three max_four min_four
set_option linter.unusedVariables false
set_option linter.unusedSimpArgs false
def torusref02_trim.l0 : Nat → List Int → Option (List Int)
 |0, _ => none
 |k + 1, x0 => if (x0.length : Int) > 0 then (if 0 ≤ (wrap64 ((x0.length : Int) - 1)) then (if (wrap64 ((x0.length : Int) - 1)) < (x0.length : Int) then (if (rd x0 (wrap64 ((x0.length : Int) - 1))) = 0 then (if (wrap64 ((x0.length : Int) - 1)) ≤ (x0.length : Int) then (torusref02_trim.l0 k (x0.take ((wrap64 ((x0.length : Int) - 1)) : Int).toNat)) else (none)) else (some x0)) else (none)) else (none)) else (some x0)
def torusref02_trim.f (k : Nat) (l0 : List Int) : Option (List Int) := torusref02_trim.l0 k l0
theorem torusref02_trim.mono_l : ∀ k, (∀ y0, LeO (torusref02_trim.l0 k y0) (torusref02_trim.l0 (k + 1) y0))
 |0 => fun _ r h => by simp [torusref02_trim.l0] at h
 |k + 1 => by
  have ih0 := torusref02_trim.mono_l k
  ·intro y0
   unfold torusref02_trim.l0
   repeat' first
   |(with_reducible exact ih0 _)
   |(with_reducible exact LeO.refl _)
   |(with_reducible exact LeO.none _)
   |(with_reducible refine LeO.ite ?_ ?_)
   |(with_reducible refine LeO.bind ?_ (fun _ => ?_))
theorem torusref02_trim.mono : ∀ a0 k, LeO (torusref02_trim.f k a0) (torusref02_trim.f (k + 1) a0) := by
 intro a0 k
 have ih0 := torusref02_trim.mono_l k
 unfold torusref02_trim.f
 repeat' first
   |(with_reducible exact ih0 _)
   |(with_reducible exact LeO.refl _)
   |(with_reducible exact LeO.none _)
   |(with_reducible refine LeO.ite ?_ ?_)
   |(with_reducible refine LeO.bind ?_ (fun _ => ?_))
set_option maxHeartbeats 8000000 in
set_option maxRecDepth 100000 in
theorem torusref02_trim.calls (k : Nat) (P0_ : Nat → Prop) (A0 : Option Addr) (c0 : Nat) (l0 : List Int) (r : List Int) (w : World) (hs0 : Kd.V (Kd.int .i64) 3 w w.heap.size (fun k_ => P0_ k_) (.slice A0 l0.length c0) l0) (h : torusref02_trim.f k l0 = some r) :
  Calls Tryz.prog 188 #[.slice A0 l0.length c0] w fun e w' => ∃ v0_ : Value, e = .returned (v0_) ∧ Kd.V (Kd.int .i64) 3 w' w.heap.size (fun k_ => (P0_ k_ ∨ w.heap.size ≤ k_)) v0_ r ∧ Below w.heap.size w w' := by
 have HO0 := Aside0.mk (show Kd.V (Kd.int .i64) 3 w w.heap.size (fun k_ => (P0_ k_ ∨ w.heap.size ≤ k_)) (.slice A0 l0.length c0) l0 from Kd.V_mono hs0 (fun k_ hk => .inl hk))
 have HB := Aside0.mk (Below.refl w.heap.size w)
 have H : (torusref02_trim.l0 k l0) = some r := h
 clear h
 have H' := Aside0.mk H
 clear H
 go_enter Tryz.func188, Tryz.ntmps188
 go_wp2
 go_loopg [0] k (fun kq v0 w' => ∃ (x0_1 : List Int), Aside0 (torusref02_trim.l0 kq x0_1 = some r) ∧ Aside0 (kq ≤ k) ∧ Aside0 (Kd.V (Kd.int .i64) 3 w' w.heap.size (fun k_ => (P0_ k_ ∨ w.heap.size ≤ k_)) v0 x0_1) ∧ Aside0 (Below w.heap.size w w'))
 case atStart => exact ⟨(l0), H', ⟨Nat.le_refl _⟩, ⟨rVa_ HO0.out⟩, ⟨bw_⟩⟩
 case round =>
  clear H'
  try clear c1
  obtain ⟨x0_1, HA, HK1, HO_0, HB⟩ := hrel
  cases gk with
  |zero => exact absurd HA.out (by simp [torusref02_trim.l0])
  |succ k1 =>
   have H := HA.out
   clear HA
   simp only [torusref02_trim.l0] at H
   by_cases c2 : (x0_1.length : Int) > 0
   ·rw [if_pos c2] at H
    have c2b0 : decide (0 < (x0_1.length : Int)) = true := decide_eq_true c2
    have c2b1 : decide (0 < x0_1.length) = true := decide_eq_true (by omega)
    clear c2
    obtain ⟨ji3, hji3⟩ : ∃ j_ : Int, (wrap64 ((x0_1.length : Int) - 1)) = j_ := ⟨_, rfl⟩
    replace H : (if 0 ≤ (ji3) then (if (ji3) < (x0_1.length : Int) then (if (rd x0_1 (ji3)) = 0 then (if (ji3) ≤ (x0_1.length : Int) then (torusref02_trim.l0 k1 (x0_1.take ((ji3) : Int).toNat)) else (none)) else (some x0_1)) else (none)) else (none)) = some r := by first | (rw [hji3] at H; exact H) | (simp only [hji3] at H ⊢; exact H)
    have hji3w : (IntKind.i64.wrap ((x0_1.length : Int) - 1)) = ji3 := (i64_w _).trans hji3
    by_cases c4 : 0 ≤ (ji3)
    ·rw [if_pos c4] at H
     have c4b0 : decide (0 ≤ (ji3)) = true := decide_eq_true c4
     clear c4
     by_cases c5 : (ji3) < (x0_1.length : Int)
     ·rw [if_pos c5] at H
      have c5b0 : decide ((ji3) < (x0_1.length : Int)) = true := decide_eq_true c5
      clear c5
      by_cases c6 : (rd x0_1 (ji3)) = 0
      ·rw [if_pos c6] at H
       have c6b0 : ((rd x0_1 (ji3)) == 0) = true := beq_iff_eq.mpr c6
       have c6b1 : ((rd x0_1 (ji3)) != 0) = false := bne_eq_false_iff_eq.mpr c6
       clear c6
       have c7b0 := eq_true (of_decide_eq_true as_ : 0 ≤ (ji3))
       by_cases c8 : (ji3) ≤ (x0_1.length : Int)
       ·rw [if_pos c8] at H
        have c8b0 := eq_true c8
        have c8b1 : decide ((ji3) ≤ (x0_1.length : Int)) = true := decide_eq_true c8
        clear c8
        obtain ⟨y473, hy473⟩ : ∃ y_ : List Int, y_ = (x0_1.take ((ji3) : Int).toNat) := ⟨_, rfl⟩
        replace H : (torusref02_trim.l0 k1 y473) = some r := by first | (rw [hy473]; with_reducible exact H) | (have H2_ := (Option.bind_some _ _).symm.trans H; rw [hy473]; with_reducible exact H2_) | (have H2_ := (Option.bind_some _ _).symm.trans H; with_reducible exact H2_) | with_reducible exact H | (rw [hy473]; exact H) | exact H
        have Ny473 := Aside0.mk hy473
        clear hy473
        have H' := Aside0.mk H
        clear H
        obtain ⟨Ao9, co9, eo9⟩ := Kd.V_slice HO_0.out
        subst eo9
        have p472 : 0 ≤ ((ji3) : Int) := of_decide_eq_true as_
        have q472 : (ji3) < (x0_1.length : Int) := of_decide_eq_true as_
        obtain ⟨ad472, e472, hx472_0⟩ := Kd.at_int (Kd.V_reads' HO_0.out).2.2 (ji3) p472 q472
        cases e472
        replace p472 := eq_true p472
        replace q472 := eq_true q472
        have q10 : ((ji3) : Int) ≤ ((x0_1.length : Int) : Int) := of_decide_eq_true as_
        obtain ⟨i010, hi010, _, hsz10, _⟩ := info_parts info3
        have hroom10 : x0_1.length ≤ co9 := (Kd.V_reads' HO_0.out).2.1
        have hC10 : Kd.F (Kd.int .i64) _ _ (some ad472) x0_1.length x0_1 := (Kd.V_at (base := w.heap.size) HO_0.out).2.2
        have hcut10 := cut_to (P := Tryz.prog) 146 3 .i64 Tryz.underlying146 hi010 (some ad472) x0_1.length co9 (ji3) (of_decide_eq_true as_) q10 hroom10
        have hr10 := Kd.F_take (m := ((ji3) : Int).toNat) hC10 (by omega)
        have hy10 : y473.length = ((ji3) : Int).toNat := (by rw [Ny473.out, List.length_take]; omega)
        rw [← Ny473.out] at hr10
        rw [← hy10] at hcut10
        have HO477 := Aside0.mk (show Kd.V (Kd.int .i64) 3 _ w.heap.size _ (.slice (some ad472) y473.length co9) y473 from Kd.V_mk (by omega) hr10)
        have HC477 := Aside0.mk (show y473.length ≤ co9 from by omega)
        clear hr10 hC10 hroom10 hi010 hsz10
        have KY10 := Aside0.mk hy10
        clear hy10
        replace q10 := eq_true q10
        go_wp2
        go_roundg k1
        case measure => have := HK1.out; omega
        case rel => exact ⟨(y473), H', ⟨by have := HK1.out; omega⟩, ⟨rVa_ HO477.out⟩, ⟨bw_⟩⟩
       ·rw [if_neg c8] at H
        exact absurd H (by simp)
      ·rw [if_neg c6] at H
       have c6b0 : ((rd x0_1 (ji3)) == 0) = false := beq_eq_false_iff_ne.mpr c6
       have c6b1 : ((rd x0_1 (ji3)) != 0) = true := bne_iff_ne.mpr c6
       obtain rfl := Option.some.inj H
       obtain ⟨Ao11, co11, eo11⟩ := Kd.V_slice HO_0.out
       subst eo11
       have p472 : 0 ≤ ((ji3) : Int) := of_decide_eq_true as_
       have q472 : (ji3) < (x0_1.length : Int) := of_decide_eq_true as_
       obtain ⟨ad472, e472, hx472_0⟩ := Kd.at_int (Kd.V_reads' HO_0.out).2.2 (ji3) p472 q472
       cases e472
       replace p472 := eq_true p472
       replace q472 := eq_true q472
       go_wp2
       go_ret
       exact ⟨_, by first | rfl | (simp [errW_none, errW_some] <;> rfl) | (simp only [← hji3]; first | rfl | (simp [errW_none, errW_some] <;> rfl)) | (simp [*, errW_none, errW_some] <;> rfl), rVa_ HO_0.out, bw_⟩
     ·rw [if_neg c5] at H
      exact absurd H (by simp)
    ·rw [if_neg c4] at H
     exact absurd H (by simp)
   ·rw [if_neg c2] at H
    have c2b0 : decide (0 < (x0_1.length : Int)) = false := decide_eq_false c2
    have c2b1 : decide (0 < x0_1.length) = false := decide_eq_false (by omega)
    clear c2
    obtain rfl := Option.some.inj H
    obtain ⟨Ao12, co12, eo12⟩ := Kd.V_slice HO_0.out
    subst eo12
    go_wp2
    go_ret
    exact ⟨_, by first | rfl | (simp [errW_none, errW_some] <;> rfl) | (simp [*, errW_none, errW_some] <;> rfl), rVa_ HO_0.out, bw_⟩
attribute [local go_sem] max2_int min2_int max_two min_two max_three min_three max_four min_four
set_option linter.unusedVariables false
set_option linter.unusedSimpArgs false
mutual
def torusref02_digits.j0 : Nat → ByteArray → Bool → Option (Bool × List Int)
 |0, _, _ => none
 |k + 1, x0, x4 => torusref02_digits.l0 k x0 x4 ([] : List Int) (wrap64 ((x0.size : Int) - 1))
def torusref02_digits.l0 : Nat → ByteArray → Bool → List Int → Int → Option (Bool × List Int)
 |0, _, _, _, _ => none
 |k + 1, x0, x4, x5, x6 => if x6 ≥ 0 then (if 0 ≤ x6 then (if x6 < (x0.size : Int) then (if (bt x0 x6) = 45 then (torusref02_digits.l0 k x0 x4 x5 (wrap64 (x6 - 1))) else (if x5.length < 17592186044416 then (torusref02_digits.l0 k x0 x4 (x5 ++ [wrap64 ((wrap64 (bt x0 x6)) - 48)]) (wrap64 (x6 - 1))) else (none))) else (none)) else (none)) else ((torusref02_trim.f k x5).bind fun t481 => (some (x4, t481)))
end
def torusref02_digits.f (k : Nat) (a0 : ByteArray) : Option (Bool × List Int) := if (a0.size : Int) > 0 then (if 0 < (a0.size : Int) then (torusref02_digits.j0 k a0 ((bt a0 0) == 45)) else (none)) else (torusref02_digits.j0 k a0 false)
set_option maxHeartbeats 8000000 in
set_option maxRecDepth 100000 in
theorem torusref02_digits.calls (k : Nat) (a0 : ByteArray) (r1 : Bool) (r2 : List Int) (w : World) (h : torusref02_digits.f k a0 = some (r1, r2)) :
  Calls Tryz.prog 156 #[.string a0] w fun e w' => ∃ v1_ : Value, e = .returned (.tuple #[.bool r1, v1_]) ∧ Kd.V (Kd.int .i64) 3 w' w.heap.size (fun k_ => (w.heap.size ≤ k_)) v1_ r2 ∧ Below w.heap.size w w' := by
 have HB := Aside0.mk (Below.refl w.heap.size w)
 have H : (if (a0.size : Int) > 0 then (if 0 < (a0.size : Int) then (torusref02_digits.j0 k a0 ((bt a0 0) == 45)) else (none)) else (torusref02_digits.j0 k a0 false)) = some (r1, r2) := h
 clear h
 have HC2 := Aside0.mk H
 clear H
 go_enter Tryz.func156, Tryz.ntmps156
 go_upto_region 1 with (fail)
 go_cut [4] (fun v4 wc => ∃ (kq : Nat) (x4_1 : Bool), v4 = .bool x4_1 ∧ Aside0 (torusref02_digits.j0 kq a0 x4_1 = some (r1, r2)) ∧ Aside0 (kq ≤ k) ∧ Aside0 (Below w.heap.size w wc))
 case first =>
  have H := HC2.out
  clear HC2
  by_cases c3 : (a0.size : Int) > 0
  ·rw [if_pos c3] at H
   have c3b0 : decide (0 < (a0.size : Int)) = true := decide_eq_true c3
   have c3b1 : decide (0 < a0.size) = true := decide_eq_true (by omega)
   clear c3
   (first | rw [c3b0] | (simp only [i64_w, i32_w]; rw [c3b0]) | skip)
   by_cases c4 : 0 < (a0.size : Int)
   ·rw [if_pos c4] at H
    have c4b0 : decide (0 < (a0.size : Int)) = true := decide_eq_true c4
    have c4b1 : decide (0 < a0.size) = true := decide_eq_true (by omega)
    clear c4
    have H' := Aside0.mk H
    clear H
    have p5 : 0 ≤ (0 : Int) := (by omega)
    have q5 : 0 < a0.size := (by have : (0 : Int) < (a0.size : Int) := of_decide_eq_true as_; omega)
    have hx5 : ∀ h : 0 < a0.size, ((a0[0]'h).toNat : Int) = bt a0 0 := bt_at a0 0
    clear p5
    have qi5 : (0 < (a0.size : Int)) = True := eq_true (of_decide_eq_true as_)
    replace q5 := eq_true q5
    go_wp2
    go_meet
    case rel => exact ⟨_, (((bt a0 0) == 45)), sd_, H', ⟨by first | omega | exact Nat.le_refl _⟩, ⟨bw_⟩⟩
   ·rw [if_neg c4] at H
    exact absurd H (by simp)
  ·rw [if_neg c3] at H
   have c3b0 : decide (0 < (a0.size : Int)) = false := decide_eq_false c3
   have c3b1 : decide (0 < a0.size) = false := decide_eq_false (by omega)
   clear c3
   (first | rw [c3b0] | (simp only [i64_w, i32_w]; rw [c3b0]) | skip)
   have H' := Aside0.mk H
   clear H
   go_wp2
   go_meet
   case rel => exact ⟨_, (false), sd_, H', ⟨by first | omega | exact Nat.le_refl _⟩, ⟨bw_⟩⟩
 case rest =>
  clear HC2
  try clear c1
  try clear p2
  try clear c3
  try clear c3b0
  try clear c3b1
  try clear c4
  try clear c4b0
  try clear c4b1
  try clear p5
  try clear q5
  try clear hx5
  try clear qi5
  try clear p5
  try clear q5
  obtain ⟨kq, x4_1, rfl, HA, HJ1, HB⟩ := hcut
  cases kq with
  |zero => exact absurd HA.out (by simp [torusref02_digits.j0])
  |succ kj1 =>
   have H := HA.out
   clear HA
   simp only [torusref02_digits.j0] at H
   have H' := Aside0.mk H
   clear H
   go_wp2
   go_loopg [5, 6] kj1 (fun kq v5 v6 w' => ∃ (x5_2 : List Int) (x6_2 : Int), v6 = .int .i64 x6_2 ∧ Aside0 (torusref02_digits.l0 kq a0 x4_1 x5_2 x6_2 = some (r1, r2)) ∧ Aside0 (kq ≤ kj1) ∧ Aside0 (Kd.R (Kd.int .i64) 3 w' w.heap.size (fun k_ => (w.heap.size ≤ k_)) v5 x5_2) ∧ Aside0 (Below w.heap.size w w'))
   case atStart => exact ⟨(([] : List Int)), (wrap64 ((a0.size : Int) - 1)), sd_, H', ⟨Nat.le_refl _⟩, ⟨by first | exact Kd.R_nil _ _ _ _ _ | exact Kd.N_nil _ _ _ _ _ | exact Kd.V_nil _ _ _ _ _ | exact Kd.Q_nil _ _ _ _ _ | exact Kd.S_nil _ _ _ _ _⟩, ⟨bw_⟩⟩
   case round =>
    clear H'
    try clear c1
    try clear p2
    try clear c3
    try clear c3b0
    try clear c3b1
    try clear c4
    try clear c4b0
    try clear c4b1
    try clear p5
    try clear q5
    try clear hx5
    try clear qi5
    try clear p2
    try clear p5
    try clear q5
    obtain ⟨x5_2, x6_2, rfl, HA, HK2, HO_5, HB⟩ := hrel
    cases gk with
    |zero => exact absurd HA.out (by simp [torusref02_digits.l0])
    |succ k2 =>
     have H := HA.out
     clear HA
     simp only [torusref02_digits.l0] at H
     by_cases c6 : x6_2 ≥ 0
     ·rw [if_pos c6] at H
      have c6b0 : decide (0 ≤ x6_2) = true := decide_eq_true c6
      clear c6
      by_cases c7 : 0 ≤ x6_2
      ·rw [if_pos c7] at H
       have c7b0 : decide (0 ≤ x6_2) = true := decide_eq_true c7
       clear c7
       by_cases c8 : x6_2 < (a0.size : Int)
       ·rw [if_pos c8] at H
        have c8b0 : decide (x6_2 < (a0.size : Int)) = true := decide_eq_true c8
        clear c8
        by_cases c10 : (bt a0 x6_2) = 45
        ·rw [if_pos c10] at H
         have c10b0 : ((bt a0 x6_2) == 45) = true := beq_iff_eq.mpr c10
         have c10b1 : ((bt a0 x6_2) != 45) = false := bne_eq_false_iff_eq.mpr c10
         clear c10
         have H' := Aside0.mk H
         clear H
         have p9 : 0 ≤ (x6_2 : Int) := of_decide_eq_true as_
         have q9 : x6_2 < (a0.size : Int) := of_decide_eq_true as_
         have hx9 := bt_at a0 x6_2
         replace p9 := eq_true p9
         replace q9 := eq_true q9
         go_wp2
         go_roundg k2
         case measure => have := HJ1.out; have := HK2.out; omega
         case rel => exact ⟨(x5_2), (wrap64 (x6_2 - 1)), sd_, H', ⟨by have := HJ1.out; have := HK2.out; omega⟩, ⟨rRa_ HO_5.out⟩, ⟨bw_⟩⟩
        ·rw [if_neg c10] at H
         have c10b0 : ((bt a0 x6_2) == 45) = false := beq_eq_false_iff_ne.mpr c10
         have c10b1 : ((bt a0 x6_2) != 45) = true := bne_iff_ne.mpr c10
         by_cases c12 : x5_2.length < 17592186044416
         ·rw [if_pos c12] at H
          have LMc12 := Aside0.mk c12
          clear c12
          obtain ⟨y478, hy478⟩ : ∃ y_ : List Int, y_ = (x5_2 ++ [wrap64 ((wrap64 (bt a0 x6_2)) - 48)]) := ⟨_, rfl⟩
          replace H : (torusref02_digits.l0 k2 a0 x4_1 y478 (wrap64 (x6_2 - 1))) = some (r1, r2) := by first | (rw [hy478]; with_reducible exact H) | (have H2_ := (Option.bind_some _ _).symm.trans H; rw [hy478]; with_reducible exact H2_) | (have H2_ := (Option.bind_some _ _).symm.trans H; with_reducible exact H2_) | with_reducible exact H | (rw [hy478]; exact H) | exact H
          have Ny478 := Aside0.mk hy478
          clear hy478
          have H' := Aside0.mk H
          clear H
          have p9 : 0 ≤ (x6_2 : Int) := of_decide_eq_true as_
          have q9 : x6_2 < (a0.size : Int) := of_decide_eq_true as_
          have hx9 := bt_at a0 x6_2
          replace p9 := eq_true p9
          replace q9 := eq_true q9
          have p11 : 0 ≤ (x6_2 : Int) := of_decide_eq_true as_
          have q11 : x6_2 < (a0.size : Int) := of_decide_eq_true as_
          have hx11 := bt_at a0 x6_2
          replace p11 := eq_true p11
          replace q11 := eq_true q11
          go_wp2_with (first | ((with_reducible refine gate_builtin (b := .append) (xs := #[.tmp 26, .tmp 32]) rfl ?_); at_builtin; refine Kd.R_append (Kd.int .i64) (w0 := w) w.heap.size rfl (.tmp 26) (.tmp 32) 146 3 (.int .i64 0) 8 rfl Tryz.underlying146 info3 rfl (by decide) (by omega) u5 x5_2 (wrap64 ((wrap64 (bt a0 x6_2)) - 48)) [.int .i64 (wrap64 ((wrap64 (bt a0 x6_2)) - 48))] (fun k_ => (w.heap.size ≤ k_)) (fun _ => False) rfl rfl ?aP (fun _ hk => hk.elim) ?aF ?aO ?aB ?aS ?aL ?_; (case aP => exact rfl); (case aB => exact bw_); (case aF => exact (fun k_ hk => (Nat.le_trans (below_size bw_) hk))); (case aO => exact (rRa_ HO_5.out)); (case aS => exact (below_size bw_)); (case aL => have := LMc12.out; omega); intro v479 w13 ho hb hg hat; rw [← Ny478.out] at ho; have n0_ := Aside0.mk (hb); have n1_ := Aside0.mk (ho); clear HB; clear HO_5; have HB := n0_; have HO480 := n1_; clear n0_ n1_; clear ho hb hg hat))
          go_roundg k2
          case measure => have := HJ1.out; have := HK2.out; omega
          case rel => exact ⟨(y478), (wrap64 (x6_2 - 1)), sd_, H', ⟨by have := HJ1.out; have := HK2.out; omega⟩, ⟨rRa_ HO480.out⟩, ⟨bw_⟩⟩
         ·rw [if_neg c12] at H
          exact absurd H (by simp)
       ·rw [if_neg c8] at H
        exact absurd H (by simp)
      ·rw [if_neg c7] at H
       exact absurd H (by simp)
     ·rw [if_neg c6] at H
      have c6b0 : decide (0 ≤ x6_2) = false := decide_eq_false c6
      clear c6
      replace H := Option.bind_eq_some_iff.mp H
      obtain ⟨t481, A140, H⟩ := H
      replace H : (some (x4_1, t481)) = some (r1, r2) := H
      have A14 := Aside0.mk A140
      clear A140
      simp only [Option.some.injEq, Prod.mk.injEq] at H
      obtain ⟨rfl, rfl⟩ := H
      obtain ⟨Ao15, co15, eo15⟩ := Kd.R_slice HO_5.out
      subst eo15
      go_wp2_with (first | ((with_reducible refine gate_callee (f := 188) rfl ?_); refine goesL_ (some 36) rfl rfl Tryz.func188 (by kernel_rfl) rfl #[.slice Ao15 x5_2.length co15] rfl ag_ ?_; (with_reducible refine (torusref02_trim.calls k2 (fun k_ => some k_ = (.slice Ao15 x5_2.length co15 : Value).ownBlock) _ _ x5_2 t481 _ ?side1 A14.out).mono ?_); (case side1 => exact Kd.R_V (Kd.R_tight rfl (HO_5.out))); rintro e w16 ⟨v482, rfl, ho0, hb⟩; refine ⟨_, rfl, ?_⟩; have n0_ := Aside0.mk (Kd.R_below (rRa_ HO_5.out) hb); have n1_ := Aside0.mk (Kd.V_lower (Kd.V_mono (ok' := fun k_ => (w.heap.size ≤ k_)) ho0 (fun k_ hk_ => Or.elim hk_ (fun hs_ => ((HO_5.out).1 k_ hs_.symm)) (fun hn_ => (Nat.le_trans (below_size bw_) hn_)))) (below_size bw_)); have n2_ := Aside0.mk (below_step bw_ hb); clear HO_5; clear HB; have HO_5 := n0_; have HO483 := n1_; have HB := n2_; clear n0_ n1_ n2_; (try clear hb); (try clear hb2); (try clear hk); (try clear hi); (try clear ho0)))
      go_ret2
      exact ⟨_, by first | rfl | (simp [errW_none, errW_some] <;> rfl) | (simp [*, errW_none, errW_some] <;> rfl), rVa_ HO483.out, bw_⟩
attribute [local go_sem] max2_int min2_int max_two min_two max_three min_three max_four min_four
set_option linter.unusedVariables false
set_option linter.unusedSimpArgs false
mutual
def torusref02_text.j0 : Nat → List Int → List Int → Option (ByteArray)
 |0, _, _ => none
 |k + 1, x1, x5 => torusref02_text.l0 k x1 x5 (wrap64 ((x1.length : Int) - 1))
def torusref02_text.l0 : Nat → List Int → List Int → Int → Option (ByteArray)
 |0, _, _, _ => none
 |k + 1, x1, x5, x6 => if x6 ≥ 0 then (if 0 ≤ x6 then (if x6 < (x1.length : Int) then (if x5.length < 140737488355328 then (torusref02_text.l0 k x1 (x5 ++ [(wrap64 (48 + (rd x1 x6))) % 256]) (wrap64 (x6 - 1))) else (none)) else (none)) else (none)) else (some (strOfNums x5))
end
def torusref02_text.f (k : Nat) (a0 : Bool) (l1 : List Int) : Option (ByteArray) := (torusref02_trim.f k l1).bind fun t484 => (if (t484.length : Int) = 0 then (some (⟨#[48]⟩ : ByteArray)) else (if a0 = true then (if ([] : List Int).length < 140737488355328 then (torusref02_text.j0 k t484 (([] : List Int) ++ [45])) else (none)) else (torusref02_text.j0 k t484 ([] : List Int))))
set_option maxHeartbeats 8000000 in
set_option maxRecDepth 100000 in
theorem torusref02_text.calls (k : Nat) (a0 : Bool) (A1 : Option Addr) (c1 : Nat) (l1 : List Int) (r : ByteArray) (w : World) (hr1 : Kd.C (Kd.int .i64) w A1 l1.length l1) (hc1 : l1.length ≤ c1) (h : torusref02_text.f k a0 l1 = some r) :
  Calls Tryz.prog 157 #[.bool a0, .slice A1 l1.length c1] w fun e w' => e = .returned (.string r) ∧ Below w.heap.size w w' := by
 have HR1 := Aside0.mk hr1
 have HC1 := Aside0.mk hc1
 clear hr1 hc1
 have HB := Aside0.mk (Below.refl w.heap.size w)
 have H : ((torusref02_trim.f k l1).bind fun t484 => (if (t484.length : Int) = 0 then (some (⟨#[48]⟩ : ByteArray)) else (if a0 = true then (if ([] : List Int).length < 140737488355328 then (torusref02_text.j0 k t484 (([] : List Int) ++ [45])) else (none)) else (torusref02_text.j0 k t484 ([] : List Int))))) = some r := h
 clear h
 replace H := Option.bind_eq_some_iff.mp H
 obtain ⟨t484, A30, H⟩ := H
 have A3 := Aside0.mk A30
 clear A30
 by_cases c4 : (t484.length : Int) = 0
 ·rw [if_pos c4] at H
  have c4b0 : ((t484.length : Int) == 0) = true := beq_iff_eq.mpr c4
  have c4b1 : ((t484.length : Int) != 0) = false := bne_eq_false_iff_eq.mpr c4
  clear c4
  obtain rfl := Option.some.inj H
  go_enter Tryz.func157, Tryz.ntmps157
  go_wp2_with (first | ((with_reducible refine gate_callee (f := 188) rfl ?_); refine goesL_ (some 8) rfl rfl Tryz.func188 (by kernel_rfl) rfl #[.slice A1 l1.length c1] rfl ag_ ?_; (with_reducible refine (torusref02_trim.calls k (fun k_ => k_ < w.heap.size) _ _ l1 t484 _ ?side1 A3.out).mono ?_); (case side1 => exact Kd.V_mk HC1.out (Kd.F_below (Kd.C_F (Kd.heap_int .i64) HR1.out) bw_)); rintro e w5 ⟨v485, rfl, ho0, hb⟩; refine ⟨_, rfl, ?_⟩; have n0_ := Aside0.mk (Kd.V_lower (Kd.V_mono (ok' := fun k_ => True) ho0 (fun k_ hk_ => trivial)) (below_size bw_)); have n1_ := Aside0.mk (below_step bw_ hb); clear HB; have HO486 := n0_; have HB := n1_; clear n0_ n1_; (try clear hb); (try clear hb2); (try clear hk); (try clear hi); (try clear ho0); obtain ⟨Ao6, co6, eo6⟩ := Kd.V_slice HO486.out; subst eo6))
  go_ret
  exact ⟨by first | rfl | (simp [errW_none, errW_some] <;> rfl) | (simp [*, errW_none, errW_some] <;> rfl), bw_⟩
 ·rw [if_neg c4] at H
  have c4b0 : ((t484.length : Int) == 0) = false := beq_eq_false_iff_ne.mpr c4
  have c4b1 : ((t484.length : Int) != 0) = true := bne_iff_ne.mpr c4
  have c4b2 : ¬ (t484 = []) := fun h_ => c4 (by rw [h_]; rfl)
  have HC7 := Aside0.mk H
  clear H
  go_enter Tryz.func157, Tryz.ntmps157
  go_upto_if 12 with (first | ((with_reducible refine gate_callee (f := 188) rfl ?_); refine goesL_ (some 8) rfl rfl Tryz.func188 (by kernel_rfl) rfl #[.slice A1 l1.length c1] rfl ag_ ?_; (with_reducible refine (torusref02_trim.calls k (fun k_ => k_ < w.heap.size) _ _ l1 t484 _ ?side1 A3.out).mono ?_); (case side1 => exact Kd.V_mk HC1.out (Kd.F_below (Kd.C_F (Kd.heap_int .i64) HR1.out) bw_)); rintro e w8 ⟨v485, rfl, ho0, hb⟩; refine ⟨_, rfl, ?_⟩; have n0_ := Aside0.mk (Kd.V_lower (Kd.V_mono (ok' := fun k_ => True) ho0 (fun k_ hk_ => trivial)) (below_size bw_)); have n1_ := Aside0.mk (below_step bw_ hb); clear HB; have HO486 := n0_; have HB := n1_; clear n0_ n1_; (try clear hb); (try clear hb2); (try clear hk); (try clear hi); (try clear ho0); obtain ⟨Ao9, co9, eo9⟩ := Kd.V_slice HO486.out; subst eo9))
  (try simp only [Act.put, List.setIfInBounds_toArray, List.set_cons_zero, List.set_cons_succ])
  go_cut [5] (fun v5 wc => ∃ (kq : Nat) (x5_6 : List Int), Aside0 (torusref02_text.j0 kq t484 x5_6 = some r) ∧ Aside0 (kq ≤ k) ∧ Aside0 (Kd.V (Kd.int .i64) 3 wc w.heap.size (fun k_ => some k_ ≠ (v5 : Value).ownBlock) (.slice Ao9 t484.length co9) t484) ∧ Aside0 (Kd.R (Kd.int .u8) 5 wc w.heap.size (fun _ => True) v5 x5_6) ∧ Aside0 (Below w.heap.size w wc))
  case first =>
   have H := HC7.out
   clear HC7
   by_cases c10 : a0 = true
   ·subst c10
    rw [if_pos rfl] at H
    by_cases c11 : ([] : List Int).length < 140737488355328
    ·rw [if_pos c11] at H
     have LMc11 := Aside0.mk c11
     clear c11
     obtain ⟨y487, hy487⟩ : ∃ y_ : List Int, y_ = (([] : List Int) ++ [45]) := ⟨_, rfl⟩
     replace H : (torusref02_text.j0 k t484 y487) = some r := by first | (rw [hy487]; with_reducible exact H) | (have H2_ := (Option.bind_some _ _).symm.trans H; rw [hy487]; with_reducible exact H2_) | (have H2_ := (Option.bind_some _ _).symm.trans H; with_reducible exact H2_) | with_reducible exact H | (rw [hy487]; exact H) | exact H
     have Ny487 := Aside0.mk hy487
     clear hy487
     have H' := Aside0.mk H
     clear H
     go_wp2_with (first | ((with_reducible refine gate_builtin (b := .append) (xs := #[.tmp 13, .tmp 14]) rfl ?_); at_builtin; refine Kd.R_append (Kd.int .u8) (w0 := w) w.heap.size rfl (.tmp 13) (.tmp 14) 129 5 (.int .u8 0) 1 rfl Tryz.underlying129 info5 rfl (by decide) (by omega) (.slice none 0 0) ([] : List Int) 45 [.int .u8 45] (fun _ => True) (fun _ => False) rfl rfl ?aP (fun _ hk => hk.elim) ?aF ?aO ?aB ?aS ?aL ?_; (case aP => exact rfl); (case aB => exact bw_); (case aF => exact (fun _ _ => trivial)); (case aO => exact ((Kd.R_nil _ _ _ _ (fun _ => True)))); (case aS => exact (below_size bw_)); (case aL => have := LMc11.out; omega); intro v488 w12 ho hb hg hat; rw [← Ny487.out] at ho; have n0_ := Aside0.mk (Kd.V_afterv (Kd.V_apart_nil (rVa_ HO486.out)) hg hat); have n1_ := Aside0.mk (hb); have n2_ := Aside0.mk (ho); clear HO486; clear HB; have HO486 := n0_; have HB := n1_; have HO489 := n2_; clear n0_ n1_ n2_; clear ho hb hg hat))
     go_meet
     case rel => exact ⟨_, (y487), H', ⟨by first | omega | exact Nat.le_refl _⟩, ⟨by (with_reducible repeat (first | apply Kd.V_alloc | apply Kd.V_drewN | apply Kd.V_drew)); exact Kd.V_mono HO486.out (fun _ hk => hk.2)⟩, ⟨rRa_ HO489.out⟩, ⟨bw_⟩⟩
    ·rw [if_neg c11] at H
     exact absurd H (by simp)
   ·replace c10 := Bool.eq_false_iff.mpr c10
    subst c10
    rw [if_neg (show ¬ (false = true) by decide)] at H
    have H' := Aside0.mk H
    clear H
    go_wp2
    go_meet
    case rel => exact ⟨_, (([] : List Int)), H', ⟨by first | omega | exact Nat.le_refl _⟩, ⟨by (with_reducible repeat (first | apply Kd.V_alloc | apply Kd.V_drewN | apply Kd.V_drew)); exact Kd.V_mono HO486.out (fun _ hk => (by simp [Value.ownBlock]))⟩, ⟨by first | exact Kd.R_nil _ _ _ _ _ | exact Kd.N_nil _ _ _ _ _ | exact Kd.V_nil _ _ _ _ _ | exact Kd.Q_nil _ _ _ _ _ | exact Kd.S_nil _ _ _ _ _⟩, ⟨bw_⟩⟩
  case rest =>
   clear HC7
   try clear c1
   try clear p2
   try clear c4
   try clear c4b0
   try clear c4b1
   try clear c4b2
   try clear c10
   try clear c11
   obtain ⟨kq, x5_6, HA, HJ6, HO_1, HO_5, HB⟩ := hcut
   cases kq with
   |zero => exact absurd HA.out (by simp [torusref02_text.j0])
   |succ kj6 =>
    have H := HA.out
    clear HA
    simp only [torusref02_text.j0] at H
    have H' := Aside0.mk H
    clear H
    go_wp2
    go_loopg [5, 6] kj6 (fun kq v5 v6 w' => ∃ (x5_2 : List Int) (x6_2 : Int), v6 = .int .i64 x6_2 ∧ Aside0 (torusref02_text.l0 kq t484 x5_2 x6_2 = some r) ∧ Aside0 (kq ≤ kj6) ∧ Aside0 (Kd.V (Kd.int .i64) 3 w' w.heap.size (fun k_ => some k_ ≠ (v5 : Value).ownBlock) (.slice Ao9 t484.length co9) t484) ∧ Aside0 (Kd.R (Kd.int .u8) 5 w' w.heap.size (fun _ => True) v5 x5_2) ∧ Aside0 (Below w.heap.size w w'))
    case atStart => exact ⟨(x5_6), (wrap64 ((t484.length : Int) - 1)), sd_, H', ⟨Nat.le_refl _⟩, ⟨rVa_ HO_1.out⟩, ⟨rRa_ HO_5.out⟩, ⟨bw_⟩⟩
    case round =>
     clear H'
     try clear c1
     try clear p2
     try clear c4
     try clear c4b0
     try clear c4b1
     try clear c4b2
     try clear p6
     try clear c10
     try clear c11
     try clear p2
     obtain ⟨x5_2, x6_2, rfl, HA, HK2, HO_1, HO_5, HB⟩ := hrel
     cases gk with
     |zero => exact absurd HA.out (by simp [torusref02_text.l0])
     |succ k2 =>
      have H := HA.out
      clear HA
      simp only [torusref02_text.l0] at H
      by_cases c13 : x6_2 ≥ 0
      ·rw [if_pos c13] at H
       have c13b0 : decide (0 ≤ x6_2) = true := decide_eq_true c13
       clear c13
       by_cases c14 : 0 ≤ x6_2
       ·rw [if_pos c14] at H
        have c14b0 : decide (0 ≤ x6_2) = true := decide_eq_true c14
        clear c14
        by_cases c15 : x6_2 < (t484.length : Int)
        ·rw [if_pos c15] at H
         have c15b0 : decide (x6_2 < (t484.length : Int)) = true := decide_eq_true c15
         clear c15
         by_cases c16 : x5_2.length < 140737488355328
         ·rw [if_pos c16] at H
          have LMc16 := Aside0.mk c16
          clear c16
          obtain ⟨y491, hy491⟩ : ∃ y_ : List Int, y_ = (x5_2 ++ [(wrap64 (48 + (rd t484 x6_2))) % 256]) := ⟨_, rfl⟩
          replace H : (torusref02_text.l0 k2 t484 y491 (wrap64 (x6_2 - 1))) = some r := by first | (rw [hy491]; with_reducible exact H) | (have H2_ := (Option.bind_some _ _).symm.trans H; rw [hy491]; with_reducible exact H2_) | (have H2_ := (Option.bind_some _ _).symm.trans H; with_reducible exact H2_) | with_reducible exact H | (rw [hy491]; exact H) | exact H
          have Ny491 := Aside0.mk hy491
          clear hy491
          have H' := Aside0.mk H
          clear H
          have p490 : 0 ≤ (x6_2 : Int) := of_decide_eq_true as_
          have q490 : x6_2 < (t484.length : Int) := of_decide_eq_true as_
          obtain ⟨ad490, e490, hx490_0⟩ := Kd.at_int (Kd.V_reads' HO_1.out).2.2 x6_2 p490 q490
          cases e490
          replace p490 := eq_true p490
          replace q490 := eq_true q490
          go_wp2_with (first | ((with_reducible refine gate_builtin (b := .append) (xs := #[.tmp 23, .tmp 30]) rfl ?_); at_builtin; refine Kd.R_append (Kd.int .u8) (w0 := w) w.heap.size rfl (.tmp 23) (.tmp 30) 129 5 (.int .u8 0) 1 rfl Tryz.underlying129 info5 rfl (by decide) (by omega) u5 x5_2 ((wrap64 (48 + (rd t484 x6_2))) % 256) [.int .u8 ((wrap64 (48 + (rd t484 x6_2))) % 256)] (fun _ => True) (fun _ => False) rfl rfl ?aP (fun _ hk => hk.elim) ?aF ?aO ?aB ?aS ?aL ?_; (case aP => exact rfl); (case aB => exact bw_); (case aF => exact (fun _ _ => trivial)); (case aO => exact (rRa_ HO_5.out)); (case aS => exact (below_size bw_)); (case aL => have := LMc16.out; omega); intro v492 w17 ho hb hg hat; rw [← Ny491.out] at ho; have n0_ := Aside0.mk (Kd.V_afterv (ok := (fun _ => True)) (by (with_reducible repeat (first | apply Kd.V_alloc | apply Kd.V_drewN | apply Kd.V_drew)); exact Kd.V_mono HO_1.out (fun _ hk => ⟨trivial, hk⟩)) hg hat); have n1_ := Aside0.mk (hb); have n2_ := Aside0.mk (ho); clear HO_1; clear HB; clear HO_5; have HO_1 := n0_; have HB := n1_; have HO493 := n2_; clear n0_ n1_ n2_; clear ho hb hg hat))
          go_roundg k2
          case measure => have := HJ6.out; have := HK2.out; omega
          case rel => exact ⟨(y491), (wrap64 (x6_2 - 1)), sd_, H', ⟨by have := HJ6.out; have := HK2.out; omega⟩, ⟨by (with_reducible repeat (first | apply Kd.V_alloc | apply Kd.V_drewN | apply Kd.V_drew)); exact Kd.V_mono HO_1.out (fun _ hk => hk.2)⟩, ⟨rRa_ HO493.out⟩, ⟨bw_⟩⟩
         ·rw [if_neg c16] at H
          exact absurd H (by simp)
        ·rw [if_neg c15] at H
         exact absurd H (by simp)
       ·rw [if_neg c14] at H
        exact absurd H (by simp)
      ·rw [if_neg c13] at H
       have c13b0 : decide (0 ≤ x6_2) = false := decide_eq_false c13
       clear c13
       obtain rfl := Option.some.inj H
       have hcv18 := own_string (P := Tryz.prog) Tryz.underlying129 Tryz.underlying5 Tryz.underlying22 (Kd.own_of_R HO_5.out)
       go_wp2
       go_ret
       exact ⟨by first | rfl | (simp [errW_none, errW_some] <;> rfl) | (simp [*, errW_none, errW_some] <;> rfl), bw_⟩
attribute [local go_sem] max2_int min2_int max_two min_two max_three min_three max_four min_four
set_option linter.unusedVariables false
set_option linter.unusedSimpArgs false
def torusref02_Opposite.f (k : Nat) (a0 : ByteArray) : Option (ByteArray) := (torusref02_digits.f k a0).bind fun bt494 => ((torusref02_text.f k (!bt494.1) bt494.2).bind fun t498 => (some t498))
set_option maxHeartbeats 8000000 in
set_option maxRecDepth 100000 in
theorem torusref02_Opposite.calls (k : Nat) (a0 : ByteArray) (r : ByteArray) (w : World) (h : torusref02_Opposite.f k a0 = some r) :
  Calls Tryz.prog 91 #[.string a0] w fun e w' => e = .returned (.string r) ∧ Below w.heap.size w w' := by
 have HB := Aside0.mk (Below.refl w.heap.size w)
 have H : ((torusref02_digits.f k a0).bind fun bt494 => ((torusref02_text.f k (!bt494.1) bt494.2).bind fun t498 => (some t498))) = some r := h
 clear h
 replace H := Option.bind_eq_some_iff.mp H
 obtain ⟨⟨t494, t495⟩, A20, H⟩ := H
 dsimp only at H
 have A2 := Aside0.mk A20
 clear A20
 replace H := Option.bind_eq_some_iff.mp H
 obtain ⟨t498, A30, H⟩ := H
 have A3 := Aside0.mk A30
 clear A30
 obtain rfl := Option.some.inj H
 go_enter Tryz.func91, Tryz.ntmps91
 go_wp2_with (first | ((with_reducible refine gate_callee (f := 156) rfl ?_); refine goesL_ (some 7) rfl rfl Tryz.func156 (by kernel_rfl) rfl #[.string a0] rfl ag_ ?_; (with_reducible refine (torusref02_digits.calls k a0 t494 t495 _ A2.out).mono ?_); rintro e w4 ⟨v496, rfl, ho0, hb⟩; refine ⟨_, rfl, ?_⟩; have n0_ := Aside0.mk (Kd.V_lower (Kd.V_mono (ok' := fun k_ => True) ho0 (fun k_ hk_ => trivial)) (below_size bw_)); have n1_ := Aside0.mk (below_step bw_ hb); clear HB; have HO497 := n0_; have HB := n1_; clear n0_ n1_; (try clear hb); (try clear hb2); (try clear hk); (try clear hi); (try clear ho0); obtain ⟨Ao5, co5, eo5⟩ := Kd.V_slice HO497.out; subst eo5) | ((with_reducible refine gate_callee (f := 157) rfl ?_); refine goesL_ (some 13) rfl rfl Tryz.func157 (by kernel_rfl) rfl #[.bool (!t494), .slice Ao5 t495.length co5] rfl ag_ ?_; (with_reducible refine (torusref02_text.calls k (!t494) _ _ t495 t498 _ ?side1 ?side2 A3.out).mono ?_); (case side1 => repeat (first | exact (Kd.V_reads' HO497.out).2.2 | (with_reducible refine Kd.C_alloc ?_ _) | (with_reducible refine Kd.C_drewN ?_ _) | (with_reducible refine Kd.C_drew ?_))); (case side2 => exact (Kd.V_reads' HO497.out).2.1); rintro e w6 ⟨rfl, hb⟩; refine ⟨_, rfl, ?_⟩; have n0_ := Aside0.mk (Kd.V_below (rVa_ HO497.out) hb); have n1_ := Aside0.mk (below_step bw_ hb); clear HO497; clear HB; have HO497 := n0_; have HB := n1_; clear n0_ n1_; (try clear hb); (try clear hb2); (try clear hk); (try clear hi)))
 go_ret
 exact ⟨by first | rfl | (simp [errW_none, errW_some] <;> rfl) | (simp [*, errW_none, errW_some] <;> rfl), bw_⟩
attribute [local go_sem] max2_int min2_int max_two min_two max_three min_three max_four min_four
set_option linter.unusedVariables false
set_option linter.unusedSimpArgs false
def torusref02_size.l0 : Nat → List Int → List Int → Int → Option (Int)
 |0, _, _, _ => none
 |k + 1, x0, x1, x5 => if x5 ≥ 0 then (if 0 ≤ x5 then (if x5 < (x0.length : Int) then (if x5 < (x1.length : Int) then (if (rd x0 x5) < (rd x1 x5) then (some (-1)) else (if (rd x0 x5) > (rd x1 x5) then (some 1) else (torusref02_size.l0 k x0 x1 (wrap64 (x5 - 1))))) else (none)) else (none)) else (none)) else (some 0)
def torusref02_size.f (k : Nat) (l0 : List Int) (l1 : List Int) : Option (Int) := if (l0.length : Int) = (l1.length : Int) then (torusref02_size.l0 k l0 l1 (wrap64 ((l0.length : Int) - 1))) else (if (l0.length : Int) < (l1.length : Int) then (some (-1)) else (some 1))
set_option maxHeartbeats 8000000 in
set_option maxRecDepth 100000 in
theorem torusref02_size.calls (k : Nat) (A0 : Option Addr) (c0 : Nat) (l0 : List Int) (A1 : Option Addr) (c1 : Nat) (l1 : List Int) (r : Int) (w : World) (hr0 : Kd.C (Kd.int .i64) w A0 l0.length l0) (hc0 : l0.length ≤ c0) (hr1 : Kd.C (Kd.int .i64) w A1 l1.length l1) (hc1 : l1.length ≤ c1) (h : torusref02_size.f k l0 l1 = some r) :
  Calls Tryz.prog 165 #[.slice A0 l0.length c0, .slice A1 l1.length c1] w fun e w' => e = .returned (.int .i64 r) ∧ Drawn0 w w' := by
 have HR0 := Aside0.mk hr0
 have HC0 := Aside0.mk hc0
 clear hr0 hc0
 have HR1 := Aside0.mk hr1
 have HC1 := Aside0.mk hc1
 clear hr1 hc1
 have H : (if (l0.length : Int) = (l1.length : Int) then (torusref02_size.l0 k l0 l1 (wrap64 ((l0.length : Int) - 1))) else (if (l0.length : Int) < (l1.length : Int) then (some (-1)) else (some 1))) = some r := h
 clear h
 by_cases c3 : (l0.length : Int) = (l1.length : Int)
 ·rw [if_pos c3] at H
  have c3b0 : ((l0.length : Int) == (l1.length : Int)) = true := beq_iff_eq.mpr c3
  have c3b1 : ((l0.length : Int) != (l1.length : Int)) = false := bne_eq_false_iff_eq.mpr c3
  have c3b2 : (l0.length == l1.length) = true := by first | simpa using c3 | (simp at c3 ⊢; omega)
  clear c3
  have H' := Aside0.mk H
  clear H
  go_enter Tryz.func165, Tryz.ntmps165
  go_wp2
  repeat (go_quiet (fail); try go_wp2)
  go_loopg [5] k (fun kq v5 w' => ∃ (x5_1 : Int), v5 = .int .i64 x5_1 ∧ Aside0 (torusref02_size.l0 kq l0 l1 x5_1 = some r) ∧ Aside0 (kq ≤ k) ∧ Drawn0 w w')
  case atStart => exact ⟨(wrap64 ((l0.length : Int) - 1)), sd_, H', ⟨Nat.le_refl _⟩, dr_⟩
  case round =>
   clear H'
   try clear c1
   try clear p2
   try clear c3
   try clear c3b0
   try clear c3b1
   try clear c3b2
   obtain ⟨x5_1, rfl, HA, HK1, ⟨m1, rfl⟩⟩ := hrel
   cases gk with
   |zero => exact absurd HA.out (by simp [torusref02_size.l0])
   |succ k1 =>
    have H := HA.out
    clear HA
    simp only [torusref02_size.l0] at H
    by_cases c4 : x5_1 ≥ 0
    ·rw [if_pos c4] at H
     have c4b0 : decide (0 ≤ x5_1) = true := decide_eq_true c4
     clear c4
     by_cases c5 : 0 ≤ x5_1
     ·rw [if_pos c5] at H
      have c5b0 : decide (0 ≤ x5_1) = true := decide_eq_true c5
      clear c5
      by_cases c6 : x5_1 < (l0.length : Int)
      ·rw [if_pos c6] at H
       have c6b0 : decide (x5_1 < (l0.length : Int)) = true := decide_eq_true c6
       clear c6
       by_cases c7 : x5_1 < (l1.length : Int)
       ·rw [if_pos c7] at H
        have c7b0 : decide (x5_1 < (l1.length : Int)) = true := decide_eq_true c7
        clear c7
        by_cases c8 : (rd l0 x5_1) < (rd l1 x5_1)
        ·rw [if_pos c8] at H
         have c8b0 : decide ((rd l0 x5_1) < (rd l1 x5_1)) = true := decide_eq_true c8
         clear c8
         obtain rfl := Option.some.inj H
         have p506 : 0 ≤ (x5_1 : Int) := of_decide_eq_true as_
         have q506 : x5_1 < (l0.length : Int) := of_decide_eq_true as_
         obtain ⟨ad506, e506, hx506_0⟩ := Kd.at_int HR0.out x5_1 p506 q506
         cases e506
         replace p506 := eq_true p506
         replace q506 := eq_true q506
         have p507 : 0 ≤ (x5_1 : Int) := of_decide_eq_true as_
         have q507 : x5_1 < (l1.length : Int) := of_decide_eq_true as_
         obtain ⟨ad507, e507, hx507_0⟩ := Kd.at_int HR1.out x5_1 p507 q507
         cases e507
         replace p507 := eq_true p507
         replace q507 := eq_true q507
         go_wp2
         repeat (go_quiet (fail); try go_wp2)
         go_ret
         exact ⟨sd_, dr_⟩
        ·rw [if_neg c8] at H
         have c8b0 : decide ((rd l0 x5_1) < (rd l1 x5_1)) = false := decide_eq_false c8
         clear c8
         by_cases c9 : (rd l0 x5_1) > (rd l1 x5_1)
         ·rw [if_pos c9] at H
          have c9b0 : decide ((rd l1 x5_1) < (rd l0 x5_1)) = true := decide_eq_true c9
          clear c9
          obtain rfl := Option.some.inj H
          have p506 : 0 ≤ (x5_1 : Int) := of_decide_eq_true as_
          have q506 : x5_1 < (l0.length : Int) := of_decide_eq_true as_
          obtain ⟨ad506, e506, hx506_0⟩ := Kd.at_int HR0.out x5_1 p506 q506
          cases e506
          replace p506 := eq_true p506
          replace q506 := eq_true q506
          have p507 : 0 ≤ (x5_1 : Int) := of_decide_eq_true as_
          have q507 : x5_1 < (l1.length : Int) := of_decide_eq_true as_
          obtain ⟨ad507, e507, hx507_0⟩ := Kd.at_int HR1.out x5_1 p507 q507
          cases e507
          replace p507 := eq_true p507
          replace q507 := eq_true q507
          have p508 : 0 ≤ (x5_1 : Int) := of_decide_eq_true as_
          have q508 : x5_1 < (l0.length : Int) := of_decide_eq_true as_
          obtain ⟨ad508, e508, hx508_0⟩ := Kd.at_int HR0.out x5_1 p508 q508
          obtain rfl : ad506 = ad508 := (by injection e508)
          replace p508 := eq_true p508
          replace q508 := eq_true q508
          have p509 : 0 ≤ (x5_1 : Int) := of_decide_eq_true as_
          have q509 : x5_1 < (l1.length : Int) := of_decide_eq_true as_
          obtain ⟨ad509, e509, hx509_0⟩ := Kd.at_int HR1.out x5_1 p509 q509
          obtain rfl : ad507 = ad509 := (by injection e509)
          replace p509 := eq_true p509
          replace q509 := eq_true q509
          go_wp2
          repeat (go_quiet (fail); try go_wp2)
          go_ret
          exact ⟨sd_, dr_⟩
         ·rw [if_neg c9] at H
          have c9b0 : decide ((rd l1 x5_1) < (rd l0 x5_1)) = false := decide_eq_false c9
          clear c9
          have H' := Aside0.mk H
          clear H
          have p506 : 0 ≤ (x5_1 : Int) := of_decide_eq_true as_
          have q506 : x5_1 < (l0.length : Int) := of_decide_eq_true as_
          obtain ⟨ad506, e506, hx506_0⟩ := Kd.at_int HR0.out x5_1 p506 q506
          cases e506
          replace p506 := eq_true p506
          replace q506 := eq_true q506
          have p507 : 0 ≤ (x5_1 : Int) := of_decide_eq_true as_
          have q507 : x5_1 < (l1.length : Int) := of_decide_eq_true as_
          obtain ⟨ad507, e507, hx507_0⟩ := Kd.at_int HR1.out x5_1 p507 q507
          cases e507
          replace p507 := eq_true p507
          replace q507 := eq_true q507
          have p508 : 0 ≤ (x5_1 : Int) := of_decide_eq_true as_
          have q508 : x5_1 < (l0.length : Int) := of_decide_eq_true as_
          obtain ⟨ad508, e508, hx508_0⟩ := Kd.at_int HR0.out x5_1 p508 q508
          obtain rfl : ad506 = ad508 := (by injection e508)
          replace p508 := eq_true p508
          replace q508 := eq_true q508
          have p509 : 0 ≤ (x5_1 : Int) := of_decide_eq_true as_
          have q509 : x5_1 < (l1.length : Int) := of_decide_eq_true as_
          obtain ⟨ad509, e509, hx509_0⟩ := Kd.at_int HR1.out x5_1 p509 q509
          obtain rfl : ad507 = ad509 := (by injection e509)
          replace p509 := eq_true p509
          replace q509 := eq_true q509
          go_wp2
          repeat (go_quiet (fail); try go_wp2)
          go_roundg k1
          case measure => have := HK1.out; omega
          case rel => exact ⟨(wrap64 (x5_1 - 1)), sd_, H', ⟨by have := HK1.out; omega⟩, dr_⟩
       ·rw [if_neg c7] at H
        exact absurd H (by simp)
      ·rw [if_neg c6] at H
       exact absurd H (by simp)
     ·rw [if_neg c5] at H
      exact absurd H (by simp)
    ·rw [if_neg c4] at H
     have c4b0 : decide (0 ≤ x5_1) = false := decide_eq_false c4
     clear c4
     obtain rfl := Option.some.inj H
     go_wp2
     repeat (go_quiet (fail); try go_wp2)
     go_ret
     exact ⟨sd_, dr_⟩
 ·rw [if_neg c3] at H
  have c3b0 : ((l0.length : Int) == (l1.length : Int)) = false := beq_eq_false_iff_ne.mpr c3
  have c3b1 : ((l0.length : Int) != (l1.length : Int)) = true := bne_iff_ne.mpr c3
  have c3b2 : (l0.length == l1.length) = false := by first | simpa using c3 | (simp at c3 ⊢; omega)
  by_cases c10 : (l0.length : Int) < (l1.length : Int)
  ·rw [if_pos c10] at H
   have c10b0 : decide ((l0.length : Int) < (l1.length : Int)) = true := decide_eq_true c10
   have c10b1 : decide (l0.length < l1.length) = true := decide_eq_true (Int.ofNat_lt.mp c10)
   clear c10
   obtain rfl := Option.some.inj H
   go_enter Tryz.func165, Tryz.ntmps165
   go_wp2
   repeat (go_quiet (fail); try go_wp2)
   go_ret
   exact ⟨sd_, dr_⟩
  ·rw [if_neg c10] at H
   have c10b0 : decide ((l0.length : Int) < (l1.length : Int)) = false := decide_eq_false c10
   have c10b1 : decide (l0.length < l1.length) = false := decide_eq_false (fun h => c10 (Int.ofNat_lt.mpr h))
   clear c10
   obtain rfl := Option.some.inj H
   go_enter Tryz.func165, Tryz.ntmps165
   go_wp2
   repeat (go_quiet (fail); try go_wp2)
   go_ret
   exact ⟨sd_, dr_⟩
attribute [local go_sem] max2_int min2_int max_two min_two max_three min_three max_four min_four
set_option linter.unusedVariables false
set_option linter.unusedSimpArgs false
def torusref02_Compare.f (k : Nat) (a0 : ByteArray) (a1 : ByteArray) : Option (Int) := (torusref02_digits.f k a0).bind fun bt510 => ((torusref02_digits.f k a1).bind fun bt514 => (if (bt510.1 != bt514.1) = true then (if bt510.1 = true then (some (-1)) else (some 1)) else (if bt510.1 = true then ((torusref02_size.f k bt514.2 bt510.2).bind fun t518 => (some t518)) else ((torusref02_size.f k bt510.2 bt514.2).bind fun t519 => (some t519)))))
set_option maxHeartbeats 8000000 in
set_option maxRecDepth 100000 in
theorem torusref02_Compare.calls (k : Nat) (a0 : ByteArray) (a1 : ByteArray) (r : Int) (w : World) (h : torusref02_Compare.f k a0 a1 = some r) :
  Calls Tryz.prog 128 #[.string a0, .string a1] w fun e w' => e = .returned (.int .i64 r) ∧ Below w.heap.size w w' := by
 have HB := Aside0.mk (Below.refl w.heap.size w)
 have H : ((torusref02_digits.f k a0).bind fun bt510 => ((torusref02_digits.f k a1).bind fun bt514 => (if (bt510.1 != bt514.1) = true then (if bt510.1 = true then (some (-1)) else (some 1)) else (if bt510.1 = true then ((torusref02_size.f k bt514.2 bt510.2).bind fun t518 => (some t518)) else ((torusref02_size.f k bt510.2 bt514.2).bind fun t519 => (some t519)))))) = some r := h
 clear h
 replace H := Option.bind_eq_some_iff.mp H
 obtain ⟨⟨t510, t511⟩, A30, H⟩ := H
 dsimp only at H
 have A3 := Aside0.mk A30
 clear A30
 replace H := Option.bind_eq_some_iff.mp H
 obtain ⟨⟨t514, t515⟩, A40, H⟩ := H
 dsimp only at H
 have A4 := Aside0.mk A40
 clear A40
 by_cases c5 : (t510 != t514) = true
 ·rw [if_pos c5] at H
  have c5b0 : (t510 != t514) = true := c5
  (try (have c5b1 : decide (t510 = t514) = false := by simpa using c5))
  (try (have c5b2 : (t510 == t514) = false := by simpa using c5))
  (try (have c5b3 : ¬ (t510 = t514) := by simpa using c5))
  clear c5
  by_cases c6 : t510 = true
  ·subst c6
   rw [if_pos rfl] at H
   obtain rfl := Option.some.inj H
   go_enter Tryz.func128, Tryz.ntmps128
   go_wp2_with (first | ((with_reducible refine gate_callee (f := 156) rfl ?_); refine goesL_ (some 11) rfl rfl Tryz.func156 (by kernel_rfl) rfl #[.string a0] rfl ag_ ?_; (with_reducible refine (torusref02_digits.calls k a0 true t511 _ A3.out).mono ?_); rintro e w7 ⟨v512, rfl, ho0, hb⟩; refine ⟨_, rfl, ?_⟩; have n0_ := Aside0.mk (Kd.V_lower (Kd.V_mono (ok' := fun k_ => True) ho0 (fun k_ hk_ => trivial)) (below_size bw_)); have n1_ := Aside0.mk (below_step bw_ hb); clear HB; have HO513 := n0_; have HB := n1_; clear n0_ n1_; (try clear hb); (try clear hb2); (try clear hk); (try clear hi); (try clear ho0); (try clear HO513)) | ((with_reducible refine gate_callee (f := 156) rfl ?_); refine goesL_ (some 16) rfl rfl Tryz.func156 (by kernel_rfl) rfl #[.string a1] rfl ag_ ?_; (with_reducible refine (torusref02_digits.calls k a1 t514 t515 _ A4.out).mono ?_); rintro e w8 ⟨v516, rfl, ho0, hb⟩; refine ⟨_, rfl, ?_⟩; have n0_ := Aside0.mk (Kd.V_lower (Kd.V_mono (ok' := fun k_ => True) ho0 (fun k_ hk_ => trivial)) (below_size bw_)); have n1_ := Aside0.mk (below_step bw_ hb); clear HB; have HO517 := n0_; have HB := n1_; clear n0_ n1_; (try clear hb); (try clear hb2); (try clear hk); (try clear hi); (try clear ho0)))
   go_ret
   exact ⟨by first | rfl | (simp [errW_none, errW_some] <;> rfl) | (simp [*, errW_none, errW_some] <;> rfl), bw_⟩
  ·replace c6 := Bool.eq_false_iff.mpr c6
   subst c6
   rw [if_neg (show ¬ (false = true) by decide)] at H
   obtain rfl := Option.some.inj H
   go_enter Tryz.func128, Tryz.ntmps128
   go_wp2_with (first | ((with_reducible refine gate_callee (f := 156) rfl ?_); refine goesL_ (some 11) rfl rfl Tryz.func156 (by kernel_rfl) rfl #[.string a0] rfl ag_ ?_; (with_reducible refine (torusref02_digits.calls k a0 false t511 _ A3.out).mono ?_); rintro e w9 ⟨v512, rfl, ho0, hb⟩; refine ⟨_, rfl, ?_⟩; have n0_ := Aside0.mk (Kd.V_lower (Kd.V_mono (ok' := fun k_ => True) ho0 (fun k_ hk_ => trivial)) (below_size bw_)); have n1_ := Aside0.mk (below_step bw_ hb); clear HB; have HO513 := n0_; have HB := n1_; clear n0_ n1_; (try clear hb); (try clear hb2); (try clear hk); (try clear hi); (try clear ho0); (try clear HO513)) | ((with_reducible refine gate_callee (f := 156) rfl ?_); refine goesL_ (some 16) rfl rfl Tryz.func156 (by kernel_rfl) rfl #[.string a1] rfl ag_ ?_; (with_reducible refine (torusref02_digits.calls k a1 t514 t515 _ A4.out).mono ?_); rintro e w10 ⟨v516, rfl, ho0, hb⟩; refine ⟨_, rfl, ?_⟩; have n0_ := Aside0.mk (Kd.V_lower (Kd.V_mono (ok' := fun k_ => True) ho0 (fun k_ hk_ => trivial)) (below_size bw_)); have n1_ := Aside0.mk (below_step bw_ hb); clear HB; have HO517 := n0_; have HB := n1_; clear n0_ n1_; (try clear hb); (try clear hb2); (try clear hk); (try clear hi); (try clear ho0)))
   go_ret
   exact ⟨by first | rfl | (simp [errW_none, errW_some] <;> rfl) | (simp [*, errW_none, errW_some] <;> rfl), bw_⟩
 ·rw [if_neg c5] at H
  have c5b0 : (t510 != t514) = false := by simpa using c5
  (try (have c5b1 : decide (t510 = t514) = true := by simpa using c5))
  (try (have c5b2 : (t510 == t514) = true := by simpa using c5))
  clear c5
  by_cases c11 : t510 = true
  ·subst c11
   rw [if_pos rfl] at H
   replace H := Option.bind_eq_some_iff.mp H
   obtain ⟨t518, A120, H⟩ := H
   have A12 := Aside0.mk A120
   clear A120
   obtain rfl := Option.some.inj H
   go_enter Tryz.func128, Tryz.ntmps128
   go_wp2_with (first | ((with_reducible refine gate_callee (f := 156) rfl ?_); refine goesL_ (some 11) rfl rfl Tryz.func156 (by kernel_rfl) rfl #[.string a0] rfl ag_ ?_; (with_reducible refine (torusref02_digits.calls k a0 true t511 _ A3.out).mono ?_); rintro e w13 ⟨v512, rfl, ho0, hb⟩; refine ⟨_, rfl, ?_⟩; have n0_ := Aside0.mk (Kd.V_lower (Kd.V_mono (ok' := fun k_ => True) ho0 (fun k_ hk_ => trivial)) (below_size bw_)); have n1_ := Aside0.mk (below_step bw_ hb); clear HB; have HO513 := n0_; have HB := n1_; clear n0_ n1_; (try clear hb); (try clear hb2); (try clear hk); (try clear hi); (try clear ho0)) | ((with_reducible refine gate_callee (f := 156) rfl ?_); refine goesL_ (some 16) rfl rfl Tryz.func156 (by kernel_rfl) rfl #[.string a1] rfl ag_ ?_; (with_reducible refine (torusref02_digits.calls k a1 t514 t515 _ A4.out).mono ?_); rintro e w14 ⟨v516, rfl, ho0, hb⟩; refine ⟨_, rfl, ?_⟩; have n0_ := Aside0.mk (Kd.V_below (rVa_ HO513.out) hb); have n1_ := Aside0.mk (Kd.V_lower (Kd.V_mono (ok' := fun k_ => True) ho0 (fun k_ hk_ => trivial)) (below_size bw_)); have n2_ := Aside0.mk (below_step bw_ hb); clear HO513; clear HB; have HO513 := n0_; have HO517 := n1_; have HB := n2_; clear n0_ n1_ n2_; (try clear hb); (try clear hb2); (try clear hk); (try clear hi); (try clear ho0); obtain ⟨Ao15, co15, eo15⟩ := Kd.V_slice HO517.out; subst eo15; obtain ⟨Ao16, co16, eo16⟩ := Kd.V_slice HO513.out; subst eo16) | ((with_reducible refine gate_callee (f := 165) rfl ?_); refine goesL_ (some 26) rfl rfl Tryz.func165 (by kernel_rfl) rfl #[.slice Ao15 t515.length co15, .slice Ao16 t511.length co16] rfl ag_ ?_; (with_reducible refine (torusref02_size.calls k _ _ t515 _ _ t511 t518 _ ?side1 ?side2 ?side3 ?side4 A12.out).mono ?_); (case side1 => repeat (first | exact (Kd.V_reads' HO517.out).2.2 | (with_reducible refine Kd.C_alloc ?_ _) | (with_reducible refine Kd.C_drewN ?_ _) | (with_reducible refine Kd.C_drew ?_))); (case side2 => exact (Kd.V_reads' HO517.out).2.1); (case side3 => repeat (first | exact (Kd.V_reads' HO513.out).2.2 | (with_reducible refine Kd.C_alloc ?_ _) | (with_reducible refine Kd.C_drewN ?_ _) | (with_reducible refine Kd.C_drew ?_))); (case side4 => exact (Kd.V_reads' HO513.out).2.1); rintro e w' ⟨rfl, ⟨nd, rfl⟩⟩; refine ⟨_, rfl, ?_⟩))
   go_ret
   exact ⟨by first | rfl | (simp [errW_none, errW_some] <;> rfl) | (simp [*, errW_none, errW_some] <;> rfl), bw_⟩
  ·replace c11 := Bool.eq_false_iff.mpr c11
   subst c11
   rw [if_neg (show ¬ (false = true) by decide)] at H
   replace H := Option.bind_eq_some_iff.mp H
   obtain ⟨t519, A170, H⟩ := H
   have A17 := Aside0.mk A170
   clear A170
   obtain rfl := Option.some.inj H
   go_enter Tryz.func128, Tryz.ntmps128
   go_wp2_with (first | ((with_reducible refine gate_callee (f := 156) rfl ?_); refine goesL_ (some 11) rfl rfl Tryz.func156 (by kernel_rfl) rfl #[.string a0] rfl ag_ ?_; (with_reducible refine (torusref02_digits.calls k a0 false t511 _ A3.out).mono ?_); rintro e w18 ⟨v512, rfl, ho0, hb⟩; refine ⟨_, rfl, ?_⟩; have n0_ := Aside0.mk (Kd.V_lower (Kd.V_mono (ok' := fun k_ => True) ho0 (fun k_ hk_ => trivial)) (below_size bw_)); have n1_ := Aside0.mk (below_step bw_ hb); clear HB; have HO513 := n0_; have HB := n1_; clear n0_ n1_; (try clear hb); (try clear hb2); (try clear hk); (try clear hi); (try clear ho0)) | ((with_reducible refine gate_callee (f := 156) rfl ?_); refine goesL_ (some 16) rfl rfl Tryz.func156 (by kernel_rfl) rfl #[.string a1] rfl ag_ ?_; (with_reducible refine (torusref02_digits.calls k a1 t514 t515 _ A4.out).mono ?_); rintro e w19 ⟨v516, rfl, ho0, hb⟩; refine ⟨_, rfl, ?_⟩; have n0_ := Aside0.mk (Kd.V_below (rVa_ HO513.out) hb); have n1_ := Aside0.mk (Kd.V_lower (Kd.V_mono (ok' := fun k_ => True) ho0 (fun k_ hk_ => trivial)) (below_size bw_)); have n2_ := Aside0.mk (below_step bw_ hb); clear HO513; clear HB; have HO513 := n0_; have HO517 := n1_; have HB := n2_; clear n0_ n1_ n2_; (try clear hb); (try clear hb2); (try clear hk); (try clear hi); (try clear ho0); obtain ⟨Ao20, co20, eo20⟩ := Kd.V_slice HO513.out; subst eo20; obtain ⟨Ao21, co21, eo21⟩ := Kd.V_slice HO517.out; subst eo21) | ((with_reducible refine gate_callee (f := 165) rfl ?_); refine goesL_ (some 29) rfl rfl Tryz.func165 (by kernel_rfl) rfl #[.slice Ao20 t511.length co20, .slice Ao21 t515.length co21] rfl ag_ ?_; (with_reducible refine (torusref02_size.calls k _ _ t511 _ _ t515 t519 _ ?side1 ?side2 ?side3 ?side4 A17.out).mono ?_); (case side1 => repeat (first | exact (Kd.V_reads' HO513.out).2.2 | (with_reducible refine Kd.C_alloc ?_ _) | (with_reducible refine Kd.C_drewN ?_ _) | (with_reducible refine Kd.C_drew ?_))); (case side2 => exact (Kd.V_reads' HO513.out).2.1); (case side3 => repeat (first | exact (Kd.V_reads' HO517.out).2.2 | (with_reducible refine Kd.C_alloc ?_ _) | (with_reducible refine Kd.C_drewN ?_ _) | (with_reducible refine Kd.C_drew ?_))); (case side4 => exact (Kd.V_reads' HO517.out).2.1); rintro e w' ⟨rfl, ⟨nd, rfl⟩⟩; refine ⟨_, rfl, ?_⟩))
   go_ret
   exact ⟨by first | rfl | (simp [errW_none, errW_some] <;> rfl) | (simp [*, errW_none, errW_some] <;> rfl), bw_⟩
attribute [local go_sem] max2_int min2_int max_two min_two max_three min_three max_four min_four
set_option linter.unusedVariables false
set_option linter.unusedSimpArgs false
def torusref02_Positive.f (k : Nat) (a0 : ByteArray) : Option (ByteArray) := (torusref02_digits.f k a0).bind fun bt520 => ((torusref02_text.f k false bt520.2).bind fun t524 => (some t524))
set_option maxHeartbeats 8000000 in
set_option maxRecDepth 100000 in
theorem torusref02_Positive.calls (k : Nat) (a0 : ByteArray) (r : ByteArray) (w : World) (h : torusref02_Positive.f k a0 = some r) :
  Calls Tryz.prog 98 #[.string a0] w fun e w' => e = .returned (.string r) ∧ Below w.heap.size w w' := by
 have HB := Aside0.mk (Below.refl w.heap.size w)
 have H : ((torusref02_digits.f k a0).bind fun bt520 => ((torusref02_text.f k false bt520.2).bind fun t524 => (some t524))) = some r := h
 clear h
 replace H := Option.bind_eq_some_iff.mp H
 obtain ⟨⟨t520, t521⟩, A20, H⟩ := H
 dsimp only at H
 have A2 := Aside0.mk A20
 clear A20
 replace H := Option.bind_eq_some_iff.mp H
 obtain ⟨t524, A30, H⟩ := H
 have A3 := Aside0.mk A30
 clear A30
 obtain rfl := Option.some.inj H
 go_enter Tryz.func98, Tryz.ntmps98
 go_wp2_with (first | ((with_reducible refine gate_callee (f := 156) rfl ?_); refine goesL_ (some 7) rfl rfl Tryz.func156 (by kernel_rfl) rfl #[.string a0] rfl ag_ ?_; (with_reducible refine (torusref02_digits.calls k a0 t520 t521 _ A2.out).mono ?_); rintro e w4 ⟨v522, rfl, ho0, hb⟩; refine ⟨_, rfl, ?_⟩; have n0_ := Aside0.mk (Kd.V_lower (Kd.V_mono (ok' := fun k_ => True) ho0 (fun k_ hk_ => trivial)) (below_size bw_)); have n1_ := Aside0.mk (below_step bw_ hb); clear HB; have HO523 := n0_; have HB := n1_; clear n0_ n1_; (try clear hb); (try clear hb2); (try clear hk); (try clear hi); (try clear ho0); obtain ⟨Ao5, co5, eo5⟩ := Kd.V_slice HO523.out; subst eo5) | ((with_reducible refine gate_callee (f := 157) rfl ?_); refine goesL_ (some 11) rfl rfl Tryz.func157 (by kernel_rfl) rfl #[.bool false, .slice Ao5 t521.length co5] rfl ag_ ?_; (with_reducible refine (torusref02_text.calls k false _ _ t521 t524 _ ?side1 ?side2 A3.out).mono ?_); (case side1 => repeat (first | exact (Kd.V_reads' HO523.out).2.2 | (with_reducible refine Kd.C_alloc ?_ _) | (with_reducible refine Kd.C_drewN ?_ _) | (with_reducible refine Kd.C_drew ?_))); (case side2 => exact (Kd.V_reads' HO523.out).2.1); rintro e w6 ⟨rfl, hb⟩; refine ⟨_, rfl, ?_⟩; have n0_ := Aside0.mk (Kd.V_below (rVa_ HO523.out) hb); have n1_ := Aside0.mk (below_step bw_ hb); clear HO523; clear HB; have HO523 := n0_; have HB := n1_; clear n0_ n1_; (try clear hb); (try clear hb2); (try clear hk); (try clear hi)))
 go_ret
 exact ⟨by first | rfl | (simp [errW_none, errW_some] <;> rfl) | (simp [*, errW_none, errW_some] <;> rfl), bw_⟩
attribute [local go_sem] max2_int min2_int max_two min_two max_three min_three max_four min_four
set_option linter.unusedVariables false
set_option linter.unusedSimpArgs false
mutual
def torusref02_Number.l0 : Nat → Int → List Int → Option (ByteArray)
 |0, _, _ => none
 |k + 1, x3, x5 => if x3 > 0 then (if x5.length < 17592186044416 then (torusref02_Number.l0 k (wrap64 (Int.tdiv x3 10)) (x5 ++ [Int.tmod x3 10])) else (none)) else ((torusref02_text.f k true x5).bind fun t531 => (some t531))
def torusref02_Number.l1 : Nat → Int → List Int → Option (ByteArray)
 |0, _, _ => none
 |k + 1, x0, x6 => if x0 > 0 then (if x6.length < 17592186044416 then (torusref02_Number.l1 k (wrap64 (Int.tdiv x0 10)) (x6 ++ [Int.tmod x0 10])) else (none)) else ((torusref02_text.f k false x6).bind fun t535 => (some t535))
end
def torusref02_Number.f (k : Nat) (a0 : Int) : Option (ByteArray) := if a0 < 0 then (if ([] : List Int).length < 17592186044416 then (torusref02_Number.l0 k (wrap64 (-(wrap64 (Int.tdiv a0 10)))) (([] : List Int) ++ [wrap64 (-(Int.tmod a0 10))])) else (none)) else (torusref02_Number.l1 k a0 ([] : List Int))
set_option maxHeartbeats 8000000 in
set_option maxRecDepth 100000 in
theorem torusref02_Number.calls (k : Nat) (a0 : Int) (r : ByteArray) (w : World) (h : torusref02_Number.f k a0 = some r) :
  Calls Tryz.prog 109 #[.int .i64 a0] w fun e w' => e = .returned (.string r) ∧ Below w.heap.size w w' := by
 have HB := Aside0.mk (Below.refl w.heap.size w)
 have H : (if a0 < 0 then (if ([] : List Int).length < 17592186044416 then (torusref02_Number.l0 k (wrap64 (-(wrap64 (Int.tdiv a0 10)))) (([] : List Int) ++ [wrap64 (-(Int.tmod a0 10))])) else (none)) else (torusref02_Number.l1 k a0 ([] : List Int))) = some r := h
 clear h
 by_cases c2 : a0 < 0
 ·rw [if_pos c2] at H
  have c2b0 : decide (a0 < 0) = true := decide_eq_true c2
  clear c2
  by_cases c3 : ([] : List Int).length < 17592186044416
  ·rw [if_pos c3] at H
   have LMc3 := Aside0.mk c3
   clear c3
   obtain ⟨y525, hy525⟩ : ∃ y_ : List Int, y_ = (([] : List Int) ++ [wrap64 (-(Int.tmod a0 10))]) := ⟨_, rfl⟩
   replace H : (torusref02_Number.l0 k (wrap64 (-(wrap64 (Int.tdiv a0 10)))) y525) = some r := by first | (rw [hy525]; with_reducible exact H) | (have H2_ := (Option.bind_some _ _).symm.trans H; rw [hy525]; with_reducible exact H2_) | (have H2_ := (Option.bind_some _ _).symm.trans H; with_reducible exact H2_) | with_reducible exact H | (rw [hy525]; exact H) | exact H
   have Ny525 := Aside0.mk hy525
   clear hy525
   have H' := Aside0.mk H
   clear H
   go_enter Tryz.func109, Tryz.ntmps109
   go_wp2_with (first | ((with_reducible refine gate_builtin (b := .append) (xs := #[.tmp 14, .tmp 16]) rfl ?_); at_builtin; refine Kd.R_append (Kd.int .i64) (w0 := w) w.heap.size rfl (.tmp 14) (.tmp 16) 146 3 (.int .i64 0) 8 rfl Tryz.underlying146 info3 rfl (by decide) (by omega) (.slice none 0 0) ([] : List Int) (wrap64 (-(Int.tmod a0 10))) [.int .i64 (wrap64 (-(Int.tmod a0 10)))] (fun _ => True) (fun _ => False) rfl rfl ?aP (fun _ hk => hk.elim) ?aF ?aO ?aB ?aS ?aL ?_; (case aP => exact rfl); (case aB => exact bw_); (case aF => exact (fun _ _ => trivial)); (case aO => exact ((Kd.R_nil _ _ _ _ (fun _ => True)))); (case aS => exact (below_size bw_)); (case aL => have := LMc3.out; omega); intro v526 w4 ho hb hg hat; rw [← Ny525.out] at ho; have n0_ := Aside0.mk (hb); have n1_ := Aside0.mk (ho); clear HB; have HB := n0_; have HO527 := n1_; clear n0_ n1_; clear ho hb hg hat))
   go_loopg [3, 5] k (fun kq v3 v5 w' => ∃ (x3_1 : Int) (x5_1 : List Int), v3 = .int .i64 x3_1 ∧ Aside0 (torusref02_Number.l0 kq x3_1 x5_1 = some r) ∧ Aside0 (kq ≤ k) ∧ Aside0 (Kd.R (Kd.int .i64) 3 w' w.heap.size (fun _ => True) v5 x5_1) ∧ Aside0 (Below w.heap.size w w'))
   case atStart => exact ⟨(wrap64 (-(wrap64 (Int.tdiv a0 10)))), (y525), sd_, H', ⟨Nat.le_refl _⟩, ⟨rRa_ HO527.out⟩, ⟨bw_⟩⟩
   case round =>
    clear H'
    try clear c1
    try clear c2
    try clear c2b0
    try clear p2
    try clear c3
    obtain ⟨x3_1, x5_1, rfl, HA, HK1, HO_5, HB⟩ := hrel
    cases gk with
    |zero => exact absurd HA.out (by simp [torusref02_Number.l0])
    |succ k1 =>
     have H := HA.out
     clear HA
     simp only [torusref02_Number.l0] at H
     by_cases c5 : x3_1 > 0
     ·rw [if_pos c5] at H
      have c5b0 : decide (0 < x3_1) = true := decide_eq_true c5
      clear c5
      by_cases c6 : x5_1.length < 17592186044416
      ·rw [if_pos c6] at H
       have LMc6 := Aside0.mk c6
       clear c6
       obtain ⟨y528, hy528⟩ : ∃ y_ : List Int, y_ = (x5_1 ++ [Int.tmod x3_1 10]) := ⟨_, rfl⟩
       replace H : (torusref02_Number.l0 k1 (wrap64 (Int.tdiv x3_1 10)) y528) = some r := by first | (rw [hy528]; with_reducible exact H) | (have H2_ := (Option.bind_some _ _).symm.trans H; rw [hy528]; with_reducible exact H2_) | (have H2_ := (Option.bind_some _ _).symm.trans H; with_reducible exact H2_) | with_reducible exact H | (rw [hy528]; exact H) | exact H
       have Ny528 := Aside0.mk hy528
       clear hy528
       have H' := Aside0.mk H
       clear H
       go_wp2_with (first | ((with_reducible refine gate_builtin (b := .append) (xs := #[.tmp 24, .tmp 27]) rfl ?_); at_builtin; refine Kd.R_append (Kd.int .i64) (w0 := w) w.heap.size rfl (.tmp 24) (.tmp 27) 146 3 (.int .i64 0) 8 rfl Tryz.underlying146 info3 rfl (by decide) (by omega) u5 x5_1 (Int.tmod x3_1 10) [.int .i64 (Int.tmod x3_1 10)] (fun _ => True) (fun _ => False) rfl rfl ?aP (fun _ hk => hk.elim) ?aF ?aO ?aB ?aS ?aL ?_; (case aP => exact rfl); (case aB => exact bw_); (case aF => exact (fun _ _ => trivial)); (case aO => exact (rRa_ HO_5.out)); (case aS => exact (below_size bw_)); (case aL => have := LMc6.out; omega); intro v529 w7 ho hb hg hat; rw [← Ny528.out] at ho; have n0_ := Aside0.mk (hb); have n1_ := Aside0.mk (ho); clear HB; clear HO_5; have HB := n0_; have HO530 := n1_; clear n0_ n1_; clear ho hb hg hat))
       go_roundg k1
       case measure => have := HK1.out; omega
       case rel => exact ⟨(wrap64 (Int.tdiv x3_1 10)), (y528), sd_, H', ⟨by have := HK1.out; omega⟩, ⟨rRa_ HO530.out⟩, ⟨bw_⟩⟩
      ·rw [if_neg c6] at H
       exact absurd H (by simp)
     ·rw [if_neg c5] at H
      have c5b0 : decide (0 < x3_1) = false := decide_eq_false c5
      clear c5
      replace H := Option.bind_eq_some_iff.mp H
      obtain ⟨t531, A80, H⟩ := H
      have A8 := Aside0.mk A80
      clear A80
      obtain rfl := Option.some.inj H
      obtain ⟨Ao9, co9, eo9⟩ := Kd.R_slice HO_5.out
      subst eo9
      go_wp2_with (first | ((with_reducible refine gate_callee (f := 157) rfl ?_); refine goesL_ (some 30) rfl rfl Tryz.func157 (by kernel_rfl) rfl #[.bool true, .slice Ao9 x5_1.length co9] rfl ag_ ?_; (with_reducible refine (torusref02_text.calls k1 true _ _ x5_1 t531 _ ?side1 ?side2 A8.out).mono ?_); (case side1 => repeat (first | exact (Kd.R_reads' HO_5.out).2.2 | (with_reducible refine Kd.C_alloc ?_ _) | (with_reducible refine Kd.C_drewN ?_ _) | (with_reducible refine Kd.C_drew ?_))); (case side2 => exact (Kd.R_reads' HO_5.out).2.1); rintro e w10 ⟨rfl, hb⟩; refine ⟨_, rfl, ?_⟩; have n0_ := Aside0.mk (Kd.R_below (rRa_ HO_5.out) hb); have n1_ := Aside0.mk (below_step bw_ hb); clear HO_5; clear HB; have HO_5 := n0_; have HB := n1_; clear n0_ n1_; (try clear hb); (try clear hb2); (try clear hk); (try clear hi)))
      go_ret
      exact ⟨by first | rfl | (simp [errW_none, errW_some] <;> rfl) | (simp [*, errW_none, errW_some] <;> rfl), bw_⟩
  ·rw [if_neg c3] at H
   exact absurd H (by simp)
 ·rw [if_neg c2] at H
  have c2b0 : decide (a0 < 0) = false := decide_eq_false c2
  clear c2
  have H' := Aside0.mk H
  clear H
  go_enter Tryz.func109, Tryz.ntmps109
  go_wp2
  go_loopg [0, 6] k (fun kq v0 v6 w' => ∃ (x0_1 : Int) (x6_1 : List Int), v0 = .int .i64 x0_1 ∧ Aside0 (torusref02_Number.l1 kq x0_1 x6_1 = some r) ∧ Aside0 (kq ≤ k) ∧ Aside0 (Kd.R (Kd.int .i64) 3 w' w.heap.size (fun _ => True) v6 x6_1) ∧ Aside0 (Below w.heap.size w w'))
  case atStart => exact ⟨(a0), (([] : List Int)), sd_, H', ⟨Nat.le_refl _⟩, ⟨by first | exact Kd.R_nil _ _ _ _ _ | exact Kd.N_nil _ _ _ _ _ | exact Kd.V_nil _ _ _ _ _ | exact Kd.Q_nil _ _ _ _ _ | exact Kd.S_nil _ _ _ _ _⟩, ⟨bw_⟩⟩
  case round =>
   clear H'
   try clear c1
   try clear c2
   try clear c2b0
   try clear p2
   try clear c3
   try clear c5
   try clear c5b0
   try clear c6
   try clear p6
   try clear c10
   try clear p2
   obtain ⟨x0_1, x6_1, rfl, HA, HK1, HO_6, HB⟩ := hrel
   cases gk with
   |zero => exact absurd HA.out (by simp [torusref02_Number.l1])
   |succ k1 =>
    have H := HA.out
    clear HA
    simp only [torusref02_Number.l1] at H
    by_cases c11 : x0_1 > 0
    ·rw [if_pos c11] at H
     have c11b0 : decide (0 < x0_1) = true := decide_eq_true c11
     clear c11
     by_cases c12 : x6_1.length < 17592186044416
     ·rw [if_pos c12] at H
      have LMc12 := Aside0.mk c12
      clear c12
      obtain ⟨y532, hy532⟩ : ∃ y_ : List Int, y_ = (x6_1 ++ [Int.tmod x0_1 10]) := ⟨_, rfl⟩
      replace H : (torusref02_Number.l1 k1 (wrap64 (Int.tdiv x0_1 10)) y532) = some r := by first | (rw [hy532]; with_reducible exact H) | (have H2_ := (Option.bind_some _ _).symm.trans H; rw [hy532]; with_reducible exact H2_) | (have H2_ := (Option.bind_some _ _).symm.trans H; with_reducible exact H2_) | with_reducible exact H | (rw [hy532]; exact H) | exact H
      have Ny532 := Aside0.mk hy532
      clear hy532
      have H' := Aside0.mk H
      clear H
      go_wp2_with (first | ((with_reducible refine gate_builtin (b := .append) (xs := #[.tmp 35, .tmp 38]) rfl ?_); at_builtin; refine Kd.R_append (Kd.int .i64) (w0 := w) w.heap.size rfl (.tmp 35) (.tmp 38) 146 3 (.int .i64 0) 8 rfl Tryz.underlying146 info3 rfl (by decide) (by omega) u6 x6_1 (Int.tmod x0_1 10) [.int .i64 (Int.tmod x0_1 10)] (fun _ => True) (fun _ => False) rfl rfl ?aP (fun _ hk => hk.elim) ?aF ?aO ?aB ?aS ?aL ?_; (case aP => exact rfl); (case aB => exact bw_); (case aF => exact (fun _ _ => trivial)); (case aO => exact (rRa_ HO_6.out)); (case aS => exact (below_size bw_)); (case aL => have := LMc12.out; omega); intro v533 w13 ho hb hg hat; rw [← Ny532.out] at ho; have n0_ := Aside0.mk (hb); have n1_ := Aside0.mk (ho); clear HB; clear HO_6; have HB := n0_; have HO534 := n1_; clear n0_ n1_; clear ho hb hg hat))
      go_roundg k1
      case measure => have := HK1.out; omega
      case rel => exact ⟨(wrap64 (Int.tdiv x0_1 10)), (y532), sd_, H', ⟨by have := HK1.out; omega⟩, ⟨rRa_ HO534.out⟩, ⟨bw_⟩⟩
     ·rw [if_neg c12] at H
      exact absurd H (by simp)
    ·rw [if_neg c11] at H
     have c11b0 : decide (0 < x0_1) = false := decide_eq_false c11
     clear c11
     replace H := Option.bind_eq_some_iff.mp H
     obtain ⟨t535, A140, H⟩ := H
     have A14 := Aside0.mk A140
     clear A140
     obtain rfl := Option.some.inj H
     obtain ⟨Ao15, co15, eo15⟩ := Kd.R_slice HO_6.out
     subst eo15
     go_wp2_with (first | ((with_reducible refine gate_callee (f := 157) rfl ?_); refine goesL_ (some 41) rfl rfl Tryz.func157 (by kernel_rfl) rfl #[.bool false, .slice Ao15 x6_1.length co15] rfl ag_ ?_; (with_reducible refine (torusref02_text.calls k1 false _ _ x6_1 t535 _ ?side1 ?side2 A14.out).mono ?_); (case side1 => repeat (first | exact (Kd.R_reads' HO_6.out).2.2 | (with_reducible refine Kd.C_alloc ?_ _) | (with_reducible refine Kd.C_drewN ?_ _) | (with_reducible refine Kd.C_drew ?_))); (case side2 => exact (Kd.R_reads' HO_6.out).2.1); rintro e w16 ⟨rfl, hb⟩; refine ⟨_, rfl, ?_⟩; have n0_ := Aside0.mk (Kd.R_below (rRa_ HO_6.out) hb); have n1_ := Aside0.mk (below_step bw_ hb); clear HO_6; clear HB; have HO_6 := n0_; have HB := n1_; clear n0_ n1_; (try clear hb); (try clear hb2); (try clear hk); (try clear hi)))
     go_ret
     exact ⟨by first | rfl | (simp [errW_none, errW_some] <;> rfl) | (simp [*, errW_none, errW_some] <;> rfl), bw_⟩
attribute [local go_sem] max2_int min2_int max_two min_two max_three min_three max_four min_four
set_option linter.unusedVariables false
set_option linter.unusedSimpArgs false
def torusref02_Digits.f (a0 : ByteArray) : Option (Int) := if (a0.size : Int) > 0 then (if 0 < (a0.size : Int) then (if (bt a0 0) = 45 then (some (wrap64 ((a0.size : Int) - 1))) else (some (a0.size : Int))) else (none)) else (some (a0.size : Int))
set_option maxHeartbeats 8000000 in
set_option maxRecDepth 100000 in
theorem torusref02_Digits.calls (a0 : ByteArray) (r : Int) (w : World) (h : torusref02_Digits.f a0 = some r) :
  Calls Tryz.prog 190 #[.string a0] w fun e w' => e = .returned (.int .i64 r) ∧ Drawn0 w w' := by
 have H : (if (a0.size : Int) > 0 then (if 0 < (a0.size : Int) then (if (bt a0 0) = 45 then (some (wrap64 ((a0.size : Int) - 1))) else (some (a0.size : Int))) else (none)) else (some (a0.size : Int))) = some r := h
 clear h
 by_cases c2 : (a0.size : Int) > 0
 ·rw [if_pos c2] at H
  have c2b0 : decide (0 < (a0.size : Int)) = true := decide_eq_true c2
  have c2b1 : decide (0 < a0.size) = true := decide_eq_true (by omega)
  clear c2
  by_cases c3 : 0 < (a0.size : Int)
  ·rw [if_pos c3] at H
   have c3b0 : decide (0 < (a0.size : Int)) = true := decide_eq_true c3
   have c3b1 : decide (0 < a0.size) = true := decide_eq_true (by omega)
   clear c3
   by_cases c5 : (bt a0 0) = 45
   ·rw [if_pos c5] at H
    have c5b0 : ((bt a0 0) == 45) = true := beq_iff_eq.mpr c5
    have c5b1 : ((bt a0 0) != 45) = false := bne_eq_false_iff_eq.mpr c5
    clear c5
    obtain rfl := Option.some.inj H
    have p4 : 0 ≤ (0 : Int) := (by omega)
    have q4 : 0 < a0.size := (by have : (0 : Int) < (a0.size : Int) := of_decide_eq_true as_; omega)
    have hx4 : ∀ h : 0 < a0.size, ((a0[0]'h).toNat : Int) = bt a0 0 := bt_at a0 0
    clear p4
    have qi4 : (0 < (a0.size : Int)) = True := eq_true (of_decide_eq_true as_)
    replace q4 := eq_true q4
    go_enter Tryz.func190, Tryz.ntmps190
    go_wp2
    go_ret
    exact ⟨sd_, dr_⟩
   ·rw [if_neg c5] at H
    have c5b0 : ((bt a0 0) == 45) = false := beq_eq_false_iff_ne.mpr c5
    have c5b1 : ((bt a0 0) != 45) = true := bne_iff_ne.mpr c5
    obtain rfl := Option.some.inj H
    have p4 : 0 ≤ (0 : Int) := (by omega)
    have q4 : 0 < a0.size := (by have : (0 : Int) < (a0.size : Int) := of_decide_eq_true as_; omega)
    have hx4 : ∀ h : 0 < a0.size, ((a0[0]'h).toNat : Int) = bt a0 0 := bt_at a0 0
    clear p4
    have qi4 : (0 < (a0.size : Int)) = True := eq_true (of_decide_eq_true as_)
    replace q4 := eq_true q4
    go_enter Tryz.func190, Tryz.ntmps190
    go_wp2
    go_ret
    exact ⟨sd_, dr_⟩
  ·rw [if_neg c3] at H
   exact absurd H (by simp)
 ·rw [if_neg c2] at H
  have c2b0 : decide (0 < (a0.size : Int)) = false := decide_eq_false c2
  have c2b1 : decide (0 < a0.size) = false := decide_eq_false (by omega)
  clear c2
  obtain rfl := Option.some.inj H
  go_enter Tryz.func190, Tryz.ntmps190
  go_wp2
  go_ret
  exact ⟨sd_, dr_⟩
attribute [local go_sem] max2_int min2_int max_two min_two max_three min_three max_four min_four
set_option linter.unusedVariables false
set_option linter.unusedSimpArgs false
def torusref02_short.l0 : Nat → ByteArray → Int → Int → Option (Int × Bool)
 |0, _, _, _ => none
 |k + 1, x0, x4, x5 => if x5 < (x0.size : Int) then (if 0 ≤ x5 then (if (bt x0 x5) = 45 then (torusref02_short.l0 k x0 x4 (wrap64 (x5 + 1))) else (torusref02_short.l0 k x0 (wrap64 ((wrap64 ((wrap64 (10 * x4)) + (wrap64 (bt x0 x5)))) - 48)) (wrap64 (x5 + 1)))) else (none)) else (if (x0.size : Int) > 0 then (if 0 < (x0.size : Int) then (if (bt x0 0) = 45 then (some (wrap64 (-x4), true)) else (some (x4, true))) else (none)) else (some (x4, true)))
def torusref02_short.f (k : Nat) (a0 : ByteArray) : Option (Int × Bool) := (torusref02_Digits.f a0).bind fun t536 => (if t536 > 9 then (some (0, false)) else (torusref02_short.l0 k a0 0 0))
set_option maxHeartbeats 8000000 in
set_option maxRecDepth 100000 in
theorem torusref02_short.calls (k : Nat) (a0 : ByteArray) (r1 : Int) (r2 : Bool) (w : World) (h : torusref02_short.f k a0 = some (r1, r2)) :
  Calls Tryz.prog 163 #[.string a0] w fun e w' => e = .returned (.tuple #[.int .i64 r1, .bool r2]) ∧ Drawn0 w w' := by
 have H : ((torusref02_Digits.f a0).bind fun t536 => (if t536 > 9 then (some (0, false)) else (torusref02_short.l0 k a0 0 0))) = some (r1, r2) := h
 clear h
 replace H := Option.bind_eq_some_iff.mp H
 obtain ⟨t536, A20, H⟩ := H
 replace H : (if t536 > 9 then (some (0, false)) else (torusref02_short.l0 k a0 0 0)) = some (r1, r2) := H
 have A2 := Aside0.mk A20
 clear A20
 by_cases c3 : t536 > 9
 ·rw [if_pos c3] at H
  have c3b0 : decide (9 < t536) = true := decide_eq_true c3
  clear c3
  simp only [Option.some.injEq, Prod.mk.injEq] at H
  obtain ⟨rfl, rfl⟩ := H
  go_enter Tryz.func163, Tryz.ntmps163
  go_wp2_with (first | ((with_reducible refine gate_callee (f := 190) rfl ?_); refine goesL_ (some 7) rfl rfl Tryz.func190 (by kernel_rfl) rfl #[.string a0] rfl ag_ ?_; (with_reducible refine (torusref02_Digits.calls a0 t536 _ A2.out).mono ?_); rintro e w' ⟨rfl, ⟨nd, rfl⟩⟩; refine ⟨_, rfl, ?_⟩))
  go_ret2
  exact ⟨sd_, dr_⟩
 ·rw [if_neg c3] at H
  have c3b0 : decide (9 < t536) = false := decide_eq_false c3
  clear c3
  have H' := Aside0.mk H
  clear H
  go_enter Tryz.func163, Tryz.ntmps163
  go_wp2_with (first | ((with_reducible refine gate_callee (f := 190) rfl ?_); refine goesL_ (some 7) rfl rfl Tryz.func190 (by kernel_rfl) rfl #[.string a0] rfl ag_ ?_; (with_reducible refine (torusref02_Digits.calls a0 t536 _ A2.out).mono ?_); rintro e w' ⟨rfl, ⟨nd, rfl⟩⟩; refine ⟨_, rfl, ?_⟩))
  go_loopg [4, 5] k (fun kq v4 v5 w' => ∃ (x4_1 : Int) (x5_1 : Int), v4 = .int .i64 x4_1 ∧ v5 = .int .i64 x5_1 ∧ Aside0 (torusref02_short.l0 kq a0 x4_1 x5_1 = some (r1, r2)) ∧ Aside0 (kq ≤ k) ∧ Drawn0 w w')
  case atStart => exact ⟨(0), (0), sd_, sd_, H', ⟨Nat.le_refl _⟩, dr_⟩
  case round =>
   clear H'
   try clear c1
   try clear p2
   try clear c3
   try clear c3b0
   obtain ⟨x4_1, x5_1, rfl, rfl, HA, HK1, ⟨m1, rfl⟩⟩ := hrel
   cases gk with
   |zero => exact absurd HA.out (by simp [torusref02_short.l0])
   |succ k1 =>
    have H := HA.out
    clear HA
    simp only [torusref02_short.l0] at H
    by_cases c4 : x5_1 < (a0.size : Int)
    ·rw [if_pos c4] at H
     have c4b0 : decide (x5_1 < (a0.size : Int)) = true := decide_eq_true c4
     clear c4
     by_cases c5 : 0 ≤ x5_1
     ·rw [if_pos c5] at H
      have c5b0 : decide (0 ≤ x5_1) = true := decide_eq_true c5
      clear c5
      by_cases c7 : (bt a0 x5_1) = 45
      ·rw [if_pos c7] at H
       have c7b0 : ((bt a0 x5_1) == 45) = true := beq_iff_eq.mpr c7
       have c7b1 : ((bt a0 x5_1) != 45) = false := bne_eq_false_iff_eq.mpr c7
       clear c7
       have H' := Aside0.mk H
       clear H
       have p6 : 0 ≤ (x5_1 : Int) := of_decide_eq_true as_
       have q6 : x5_1 < (a0.size : Int) := of_decide_eq_true as_
       have hx6 := bt_at a0 x5_1
       replace p6 := eq_true p6
       replace q6 := eq_true q6
       go_wp2
       go_roundg k1
       case measure => have := HK1.out; omega
       case rel => exact ⟨(x4_1), (wrap64 (x5_1 + 1)), sd_, sd_, H', ⟨by have := HK1.out; omega⟩, dr_⟩
      ·rw [if_neg c7] at H
       have c7b0 : ((bt a0 x5_1) == 45) = false := beq_eq_false_iff_ne.mpr c7
       have c7b1 : ((bt a0 x5_1) != 45) = true := bne_iff_ne.mpr c7
       have H' := Aside0.mk H
       clear H
       have p6 : 0 ≤ (x5_1 : Int) := of_decide_eq_true as_
       have q6 : x5_1 < (a0.size : Int) := of_decide_eq_true as_
       have hx6 := bt_at a0 x5_1
       replace p6 := eq_true p6
       replace q6 := eq_true q6
       have p8 : 0 ≤ (x5_1 : Int) := of_decide_eq_true as_
       have q8 : x5_1 < (a0.size : Int) := of_decide_eq_true as_
       have hx8 := bt_at a0 x5_1
       replace p8 := eq_true p8
       replace q8 := eq_true q8
       go_wp2
       go_roundg k1
       case measure => have := HK1.out; omega
       case rel => exact ⟨(wrap64 ((wrap64 ((wrap64 (10 * x4_1)) + (wrap64 (bt a0 x5_1)))) - 48)), (wrap64 (x5_1 + 1)), sd_, sd_, H', ⟨by have := HK1.out; omega⟩, dr_⟩
     ·rw [if_neg c5] at H
      exact absurd H (by simp)
    ·rw [if_neg c4] at H
     have c4b0 : decide (x5_1 < (a0.size : Int)) = false := decide_eq_false c4
     clear c4
     by_cases c9 : (a0.size : Int) > 0
     ·rw [if_pos c9] at H
      have c9b0 : decide (0 < (a0.size : Int)) = true := decide_eq_true c9
      have c9b1 : decide (0 < a0.size) = true := decide_eq_true (by omega)
      clear c9
      by_cases c10 : 0 < (a0.size : Int)
      ·rw [if_pos c10] at H
       have c10b0 : decide (0 < (a0.size : Int)) = true := decide_eq_true c10
       have c10b1 : decide (0 < a0.size) = true := decide_eq_true (by omega)
       clear c10
       by_cases c12 : (bt a0 0) = 45
       ·rw [if_pos c12] at H
        have c12b0 : ((bt a0 0) == 45) = true := beq_iff_eq.mpr c12
        have c12b1 : ((bt a0 0) != 45) = false := bne_eq_false_iff_eq.mpr c12
        clear c12
        simp only [Option.some.injEq, Prod.mk.injEq] at H
        obtain ⟨rfl, rfl⟩ := H
        have p11 : 0 ≤ (0 : Int) := (by omega)
        have q11 : 0 < a0.size := (by have : (0 : Int) < (a0.size : Int) := of_decide_eq_true as_; omega)
        have hx11 : ∀ h : 0 < a0.size, ((a0[0]'h).toNat : Int) = bt a0 0 := bt_at a0 0
        clear p11
        have qi11 : (0 < (a0.size : Int)) = True := eq_true (of_decide_eq_true as_)
        replace q11 := eq_true q11
        go_wp2
        go_ret2
        exact ⟨sd_, dr_⟩
       ·rw [if_neg c12] at H
        have c12b0 : ((bt a0 0) == 45) = false := beq_eq_false_iff_ne.mpr c12
        have c12b1 : ((bt a0 0) != 45) = true := bne_iff_ne.mpr c12
        simp only [Option.some.injEq, Prod.mk.injEq] at H
        obtain ⟨rfl, rfl⟩ := H
        have p11 : 0 ≤ (0 : Int) := (by omega)
        have q11 : 0 < a0.size := (by have : (0 : Int) < (a0.size : Int) := of_decide_eq_true as_; omega)
        have hx11 : ∀ h : 0 < a0.size, ((a0[0]'h).toNat : Int) = bt a0 0 := bt_at a0 0
        clear p11
        have qi11 : (0 < (a0.size : Int)) = True := eq_true (of_decide_eq_true as_)
        replace q11 := eq_true q11
        go_wp2
        go_ret2
        exact ⟨sd_, dr_⟩
      ·rw [if_neg c10] at H
       exact absurd H (by simp)
     ·rw [if_neg c9] at H
      have c9b0 : decide (0 < (a0.size : Int)) = false := decide_eq_false c9
      have c9b1 : decide (0 < a0.size) = false := decide_eq_false (by omega)
      clear c9
      simp only [Option.some.injEq, Prod.mk.injEq] at H
      obtain ⟨rfl, rfl⟩ := H
      go_wp2
      go_ret2
      exact ⟨sd_, dr_⟩
theorem ev_some {α : Type} {g : Nat → Option α} {a : α} (h : Ev g a) : Ev (fun n => (g n).bind fun x => some x) a := Ev.bind h (Ev.now _)
theorem ev_of {α : Type} {g : Nat → Option α} {r : α} (K : Nat) (h : ∀ k, K ≤ k → g k = some r) : Ev g r := ⟨K, h⟩
theorem ten_tr : ∀ l : List Int, Ten.tr l = tr l
 |[] => rfl
 |x :: xs => by
  rw [Ten.tr, tr, ten_tr xs]
  all_goals (cases tr xs <;> rfl)
theorem rtrim_l0 : ∀ (n : Nat) (l : List Int) (k : Nat), l.length = n → n < k → n ≤ 9223372036854775807 → torusref02_trim.l0 k l = some (Ten.tr l)
 |0, l, k, h, hk, hn => by
  obtain ⟨k, rfl⟩ : ∃ m, k = m + 1 := ⟨k - 1, by omega⟩
  obtain rfl := List.eq_nil_of_length_eq_zero h
  rfl
 |n + 1, l, k, h, hk, hn => by
  obtain ⟨k, rfl⟩ : ∃ m, k = m + 1 := ⟨k - 1, by omega⟩
  obtain ⟨xs, y, rfl, rfl⟩ := snoc_of h
  have e : wrap64 (((xs ++ [y]).length : Int) - 1) = (xs.length : Int) := by simp only [List.length_append, List.length_cons, List.length_nil]; rw [wrap_id (by omega) (by omega)]; omega
  rw [torusref02_trim.l0, e, if_pos (by simp only [List.length_append, List.length_cons, List.length_nil]; omega), if_pos (by omega), if_pos (by simp only [List.length_append, List.length_cons, List.length_nil]; omega), rd_last]
  by_cases hy : y = 0
  ·subst hy
   rw [if_pos rfl, if_pos (by simp only [List.length_append, List.length_cons, List.length_nil]; omega), ten_tr, tr_snoc_zero, ← ten_tr]
   have : (xs ++ [(0 : Int)]).take (xs.length : Int).toNat = xs := by simp
   rw [this]
   exact rtrim_l0 _ xs k rfl (by omega) (by omega)
  ·rw [if_neg hy, ten_tr, tr_snoc hy]
theorem rtrim_ev (l : List Int) (h : l.length ≤ 9223372036854775807) : Ev (fun k => torusref02_trim.f k l) (Ten.tr l) :=
 ev_of (l.length + 1) fun k hk => rtrim_l0 _ l k rfl (by omega) h
def dgs_ (l : List Int) : List Int := (l.filter (· != 45)).reverse.map (· - 48)
theorem dgs_snoc (l : List Int) (c : Int) : dgs_ (l ++ [c]) = if c = 45 then dgs_ l else (c - 48) :: dgs_ l := by
 unfold dgs_
 rw [List.filter_append]
 by_cases h : c = 45
 ·simp [h]
 ·simp [h, List.filter_cons]
theorem digits_l0_ (a : ByteArray) (b : Bool) (hm : a.size ≤ 9000000000000) : ∀ (i k : Nat) (d : List Int), i ≤ a.size → a.size + i + 2 < k → d.length + i ≤ a.size →
  torusref02_digits.l0 k a b d ((i : Int) - 1) = some (b, Ten.tr (d ++ dgs_ ((bytesOf a).take i)))
 |0, k, d, hi, hk, hd => by
  obtain ⟨k, rfl⟩ : ∃ m, k = m + 1 := ⟨k - 1, by omega⟩
  rw [torusref02_digits.l0, if_neg (by omega)]
  rw [show torusref02_trim.f k d = some (Ten.tr d) from rtrim_l0 _ d k rfl (by omega) (by omega)]
  simp [dgs_]
 |i + 1, k, d, hi, hk, hd => by
  obtain ⟨k, rfl⟩ : ∃ m, k = m + 1 := ⟨k - 1, by omega⟩
  have e : (((i + 1 : Nat) : Int) - 1) = (i : Int) := by omega
  have hs := take_snoc (bytesOf a) i (by rw [bytesOf_size]; omega)
  rw [rd_bytesOf] at hs
  have hr := bt_range a i
  rw [torusref02_digits.l0, e, if_pos (by omega), if_pos (by omega), if_pos (by omega), hs, dgs_snoc, wrap_id (a := (i : Int) - 1) (by omega) (by omega)]
  by_cases hc : bt a i = 45
  ·rw [if_pos hc, if_pos hc]
   exact digits_l0_ a b hm i k d (by omega) (by omega) (by omega)
  ·rw [if_neg hc, if_neg hc, if_pos (by omega), wrap_id (a := bt a i) (by omega) (by omega), wrap_id (by omega) (by omega)]
   rw [digits_l0_ a b hm i k (d ++ [bt a i - 48]) (by omega) (by omega) (by rw [List.length_append, List.length_singleton]; omega)]
   simp
theorem rdigits_ev (a : ByteArray) (hm : a.size ≤ 9000000000000) : Ev (fun k => torusref02_digits.f k a) ((bytesOf a).head? == some 45, Ten.tr (dgs_ (bytesOf a))) := by
 have key : ∀ b, Ev (fun k => torusref02_digits.j0 k a b) (b, Ten.tr (dgs_ (bytesOf a))) := fun b => ev_of (2 * a.size + 5) fun k hk => by
  obtain ⟨k, rfl⟩ : ∃ m, k = m + 1 := ⟨k - 1, by omega⟩
  rw [torusref02_digits.j0, wrap_id (by omega) (by omega), digits_l0_ a b hm a.size k [] (Nat.le_refl _) (by omega) (by simp)]
  rw [List.nil_append, ← bytesOf_size, List.take_length]
 unfold torusref02_digits.f
 by_cases h : a.size = 0
 ·have hb : bytesOf a = [] := List.eq_nil_of_length_eq_zero (by rw [bytesOf_size]; exact h)
  simp only [h]
  rw [hb] at key ⊢
  exact key false
 ·rw [show (fun k => if (a.size : Int) > 0 then (if 0 < (a.size : Int) then torusref02_digits.j0 k a (bt a 0 == 45) else none) else torusref02_digits.j0 k a false) = fun k => torusref02_digits.j0 k a (bt a 0 == 45) from funext fun k => by rw [if_pos (by omega), if_pos (by omega)]]
  have e : ((bytesOf a).head? == some 45) = (bt a 0 == 45) := by
   rw [← rd_bytesOf]
   cases hb : bytesOf a with
   |nil => exact absurd (by rw [← bytesOf_size, hb]; rfl) h
   |cons c r => simp [rd]
  rw [e]
  exact key _
theorem dgs_ntx (z : Int) (h : 0 ≤ z) : Ten.tr (dgs_ (ntx z)) = Ten.dg z.toNat := by
 have hf : (ntx z).filter (· != 45) = ntx z := List.filter_eq_self.2 fun c hc => by
  have := (isd_iff c).1 (List.all_eq_true.1 (ntx_isd z) c hc)
  simp
  omega
 unfold dgs_
 rw [hf, ntx, List.reverse_reverse, sg_sub]
 by_cases h0 : z = 0
 ·subst h0
  rw [if_pos rfl, show (0 : Int).toNat = 0 from rfl, Ten.dg_zero]
  rfl
 ·rw [if_neg h0]
  exact Ten.tr_same _ (Ten.dg_can _)
theorem dgs_tx (z : Int) : Ten.tr (dgs_ (tx z)) = Ten.dg z.natAbs := by
 by_cases h : z < 0
 ·rw [tx_neg h]
  have e : dgs_ (45 :: ntx (-z)) = dgs_ (ntx (-z)) := by unfold dgs_; simp
  rw [e, dgs_ntx _ (by omega), show (-z).toNat = z.natAbs by omega]
 ·rw [tx_nonneg (by omega), dgs_ntx _ (by omega), show z.toNat = z.natAbs by omega]
theorem tx_head (z : Int) : ((tx z).head? == some 45) = decide (z < 0) := by
 by_cases h : z < 0
 ·rw [tx_neg h, decide_eq_true h]
  rfl
 ·rw [tx_nonneg (by omega), decide_eq_false h]
  exact beq_eq_false_iff_ne.mpr (ntx_ne45 z)
theorem TX_size (z : Int) : (TX z).size = (tx z).length := by rw [← bytesOf_TX, bytesOf_size]
def Sz (z : Int) : Prop := (TX z).size ≤ 1000000000
theorem digits_TX {z : Int} (h : Sz z) : Ev (fun k => torusref02_digits.f k (TX z)) (decide (z < 0), Ten.dg z.natAbs) := by
 have := rdigits_ev (TX z) (Nat.le_trans h (by decide))
 rwa [bytesOf_TX, dgs_tx, tx_head] at this
theorem text_l0_ (l : List Int) (hl : Ten.Lim l) (hm : l.length ≤ 9000000000000) : ∀ (i k : Nat) (d : List Int), i ≤ l.length → i < k → d.length + i ≤ 9000000000001 →
  torusref02_text.l0 k l d ((i : Int) - 1) = some (strOfNums (d ++ (sg (l.take i)).reverse))
 |0, k, d, hi, hk, hd => by
  obtain ⟨k, rfl⟩ : ∃ m, k = m + 1 := ⟨k - 1, by omega⟩
  rw [torusref02_text.l0, if_neg (by omega)]
  simp [sg]
 |i + 1, k, d, hi, hk, hd => by
  obtain ⟨k, rfl⟩ : ∃ m, k = m + 1 := ⟨k - 1, by omega⟩
  have e : (((i + 1 : Nat) : Int) - 1) = (i : Int) := by omega
  have hr := hl.rd i (by omega)
  rw [torusref02_text.l0, e, if_pos (by omega), if_pos (by omega), if_pos (by omega), if_pos (by omega), wrap_id (a := (i : Int) - 1) (by omega) (by omega), wrap_id (a := 48 + rd l (i : Int)) (by omega) (by omega), Int.emod_eq_of_lt (by omega) (by omega)]
  rw [text_l0_ l hl hm i k _ (by omega) (by omega) (by rw [List.length_append, List.length_singleton]; omega), take_snoc l i (by omega)]
  simp [sg, Int.add_comm]
theorem text_ev {d : List Int} (b : Bool) (h : Ten.Lim d) (hm : d.length ≤ 9000000000000) : Ev (fun k => torusref02_text.f k b d) (TX (sgnd b (Ten.val d))) := by
 have hv := Ten.val_nonneg d h
 have ht := Ten.tr_dg h
 have hl := Ten.tr_len d
 have hc := Ten.tr_can d h
 unfold torusref02_text.f
 refine (ev_bind (rtrim_ev d (by omega))).2 ?_
 by_cases h0 : Ten.val d = 0
 ·rw [ht, h0, show (0 : Int).toNat = 0 from rfl, Ten.dg_zero]
  have e : sgnd b 0 = 0 := by unfold sgnd; split <;> rfl
  rw [e]
  exact Ev.now _
 ·have hne : (Ten.tr d).length ≠ 0 := fun e => by
   have e2 := List.eq_nil_of_length_eq_zero e
   have e3 := Ten.tr_val d
   rw [e2] at e3
   exact h0 e3.symm
  have key : ∀ s : List Int, s.length ≤ 1 → Ev (fun k => torusref02_text.j0 k (Ten.tr d) s) (strOfNums (s ++ (sg (Ten.tr d)).reverse)) := fun s hs => ev_of ((Ten.tr d).length + 3) fun k hk => by
   obtain ⟨k, rfl⟩ : ∃ m, k = m + 1 := ⟨k - 1, by omega⟩
   rw [torusref02_text.j0, wrap_id (by omega) (by omega), text_l0_ _ hc.1 (by omega) _ k s (Nat.le_refl _) (by omega) (by omega), List.take_length]
  have hB : ∀ l, strOfNums l = B l := fun l => rfl
  have hn : ntx (Ten.val d) = (sg (Ten.tr d)).reverse := by rw [ntx_pos (by omega), ht]
  cases b with
  |false =>
   have := key [] (by simp)
   rw [List.nil_append, hB, ← hn] at this
   rw [sgnd_false, show TX (Ten.val d) = B (ntx (Ten.val d)) from congrArg B (tx_nonneg hv)]
   simp only [show ¬ ((Ten.tr d).length : Int) = 0 by omega, if_false, Bool.false_eq_true]
   exact this
  |true =>
   have := key [45] (by simp)
   rw [hB, ← hn] at this
   rw [sgnd_true, show TX (-Ten.val d) = B (45 :: ntx (Ten.val d)) from congrArg B (by rw [tx_neg (by omega), Int.neg_neg])]
   simp only [show ¬ ((Ten.tr d).length : Int) = 0 by omega, if_false, if_true]
   rw [show (fun k => if ([] : List Int).length < 140737488355328 then torusref02_text.j0 k (Ten.tr d) (([] : List Int) ++ [45]) else none) = fun k => torusref02_text.j0 k (Ten.tr d) [45] from funext fun k => by rw [if_pos (by decide)]; rfl]
   exact this
attribute [local go_sem] max2_int min2_int max_two min_two max_three min_three max_four min_four
set_option linter.unusedVariables false
set_option linter.unusedSimpArgs false
mutual
def torusref02_sum.l0 : Nat → List Int → List Int → List Int → Int → Int → Option (List Int)
 |0, _, _, _, _, _ => none
 |k + 1, x0, x1, x5, x6, x7 => if x7 < (x0.length : Int) then (torusref02_sum.j1 k x0 x1 x5 x6 x7 true) else (if x7 < (x1.length : Int) then (torusref02_sum.j1 k x0 x1 x5 x6 x7 true) else (torusref02_sum.j1 k x0 x1 x5 x6 x7 (decide (x6 > 0))))
def torusref02_sum.j1 : Nat → List Int → List Int → List Int → Int → Int → Bool → Option (List Int)
 |0, _, _, _, _, _, _ => none
 |k + 1, x0, x1, x5, x6, x7, x22 => if x22 = true then (if x7 < (x0.length : Int) then (if 0 ≤ x7 then (if x7 < (x1.length : Int) then (if x5.length < 17592186044416 then (torusref02_sum.l0 k x0 x1 (x5 ++ [Int.tmod (wrap64 ((wrap64 (x6 + (rd x0 x7))) + (rd x1 x7))) 10]) (wrap64 (Int.tdiv (wrap64 ((wrap64 (x6 + (rd x0 x7))) + (rd x1 x7))) 10)) (wrap64 (x7 + 1))) else (none)) else (if x5.length < 17592186044416 then (torusref02_sum.l0 k x0 x1 (x5 ++ [Int.tmod (wrap64 (x6 + (rd x0 x7))) 10]) (wrap64 (Int.tdiv (wrap64 (x6 + (rd x0 x7))) 10)) (wrap64 (x7 + 1))) else (none))) else (none)) else (if x7 < (x1.length : Int) then (if 0 ≤ x7 then (if x5.length < 17592186044416 then (torusref02_sum.l0 k x0 x1 (x5 ++ [Int.tmod (wrap64 (x6 + (rd x1 x7))) 10]) (wrap64 (Int.tdiv (wrap64 (x6 + (rd x1 x7))) 10)) (wrap64 (x7 + 1))) else (none)) else (none)) else (if x5.length < 17592186044416 then (torusref02_sum.l0 k x0 x1 (x5 ++ [Int.tmod x6 10]) (wrap64 (Int.tdiv x6 10)) (wrap64 (x7 + 1))) else (none)))) else (some x5)
end
def torusref02_sum.f (k : Nat) (l0 : List Int) (l1 : List Int) : Option (List Int) := torusref02_sum.l0 k l0 l1 ([] : List Int) 0 0
theorem torusref02_sum.mono_l : ∀ k, (∀ y0 y1 y2 y3 y4, LeO (torusref02_sum.l0 k y0 y1 y2 y3 y4) (torusref02_sum.l0 (k + 1) y0 y1 y2 y3 y4)) ∧ (∀ y0 y1 y2 y3 y4 y5, LeO (torusref02_sum.j1 k y0 y1 y2 y3 y4 y5) (torusref02_sum.j1 (k + 1) y0 y1 y2 y3 y4 y5))
 |0 => ⟨fun _ _ _ _ _ r h => by simp [torusref02_sum.l0] at h, fun _ _ _ _ _ _ r h => by simp [torusref02_sum.j1] at h⟩
 |k + 1 => by
  obtain ⟨ih0, ih1⟩ := torusref02_sum.mono_l k
  refine ⟨?_, ?_⟩
  ·intro y0 y1 y2 y3 y4
   unfold torusref02_sum.l0
   repeat' first
   |(with_reducible exact ih0 _ _ _ _ _)
   |(with_reducible exact ih1 _ _ _ _ _ _)
   |(with_reducible exact LeO.refl _)
   |(with_reducible exact LeO.none _)
   |(with_reducible refine LeO.ite ?_ ?_)
   |(with_reducible refine LeO.bind ?_ (fun _ => ?_))
  ·intro y0 y1 y2 y3 y4 y5
   unfold torusref02_sum.j1
   repeat' first
   |(with_reducible exact ih0 _ _ _ _ _)
   |(with_reducible exact ih1 _ _ _ _ _ _)
   |(with_reducible exact LeO.refl _)
   |(with_reducible exact LeO.none _)
   |(with_reducible refine LeO.ite ?_ ?_)
   |(with_reducible refine LeO.bind ?_ (fun _ => ?_))
theorem torusref02_sum.mono : ∀ a0 a1 k, LeO (torusref02_sum.f k a0 a1) (torusref02_sum.f (k + 1) a0 a1) := by
 intro a0 a1 k
 obtain ⟨ih0, ih1⟩ := torusref02_sum.mono_l k
 unfold torusref02_sum.f
 repeat' first
   |(with_reducible exact ih0 _ _ _ _ _)
   |(with_reducible exact ih1 _ _ _ _ _ _)
   |(with_reducible exact LeO.refl _)
   |(with_reducible exact LeO.none _)
   |(with_reducible refine LeO.ite ?_ ?_)
   |(with_reducible refine LeO.bind ?_ (fun _ => ?_))
set_option maxHeartbeats 8000000 in
set_option maxRecDepth 100000 in
theorem torusref02_sum.calls (k : Nat) (A0 : Option Addr) (c0 : Nat) (l0 : List Int) (A1 : Option Addr) (c1 : Nat) (l1 : List Int) (r : List Int) (w : World) (hr0 : Kd.C (Kd.int .i64) w A0 l0.length l0) (hc0 : l0.length ≤ c0) (hr1 : Kd.C (Kd.int .i64) w A1 l1.length l1) (hc1 : l1.length ≤ c1) (h : torusref02_sum.f k l0 l1 = some r) :
  Calls Tryz.prog 164 #[.slice A0 l0.length c0, .slice A1 l1.length c1] w fun e w' => ∃ v0_ : Value, e = .returned (v0_) ∧ Kd.R (Kd.int .i64) 3 w' w.heap.size (fun _ => True) v0_ r ∧ Below w.heap.size w w' := by
 have HR0 := Aside0.mk hr0
 have HC0 := Aside0.mk hc0
 clear hr0 hc0
 have HR1 := Aside0.mk hr1
 have HC1 := Aside0.mk hc1
 clear hr1 hc1
 have HB := Aside0.mk (Below.refl w.heap.size w)
 have H : (torusref02_sum.l0 k l0 l1 ([] : List Int) 0 0) = some r := h
 clear h
 have H' := Aside0.mk H
 clear H
 go_enter Tryz.func164, Tryz.ntmps164
 go_wp2
 go_loopg [5, 6, 7] k (fun kq v5 v6 v7 w' => ∃ (x5_1 : List Int) (x6_1 : Int) (x7_1 : Int), v6 = .int .i64 x6_1 ∧ v7 = .int .i64 x7_1 ∧ Aside0 (torusref02_sum.l0 kq l0 l1 x5_1 x6_1 x7_1 = some r) ∧ Aside0 (kq ≤ k) ∧ Aside0 (Kd.R (Kd.int .i64) 3 w' w.heap.size (fun _ => True) v5 x5_1) ∧ Aside0 (Below w.heap.size w w'))
 case atStart => exact ⟨(([] : List Int)), (0), (0), sd_, sd_, H', ⟨Nat.le_refl _⟩, ⟨by first | exact Kd.R_nil _ _ _ _ _ | exact Kd.N_nil _ _ _ _ _ | exact Kd.V_nil _ _ _ _ _ | exact Kd.Q_nil _ _ _ _ _ | exact Kd.S_nil _ _ _ _ _⟩, ⟨bw_⟩⟩
 case round =>
  clear H'
  try clear c1
  try clear p2
  obtain ⟨x5_1, x6_1, x7_1, rfl, rfl, HA, HK1, HO_5, HB⟩ := hrel
  cases gk with
  |zero => exact absurd HA.out (by simp [torusref02_sum.l0])
  |succ k1 =>
   have H := HA.out
   clear HA
   simp only [torusref02_sum.l0] at H
   have HC3 := Aside0.mk H
   clear H
   go_upto_region 4 with (fail)
   go_cut [22] (fun v22 wc => ∃ (kq : Nat) (x22_2 : Bool), v22 = .bool x22_2 ∧ Aside0 (torusref02_sum.j1 kq l0 l1 x5_1 x6_1 x7_1 x22_2 = some r) ∧ Aside0 (kq ≤ k1) ∧ Aside0 (Kd.R (Kd.int .i64) 3 wc w.heap.size (fun _ => True) u5 x5_1) ∧ Aside0 (Below w.heap.size w wc))
   case first =>
    have H := HC3.out
    clear HC3
    by_cases c4 : x7_1 < (l0.length : Int)
    ·rw [if_pos c4] at H
     have c4b0 : decide (x7_1 < (l0.length : Int)) = true := decide_eq_true c4
     clear c4
     (first | rw [c4b0] | (simp only [i64_w, i32_w]; rw [c4b0]) | skip)
     have H' := Aside0.mk H
     clear H
     go_wp2
     go_meet
     case rel => exact ⟨_, (true), sd_, H', ⟨by have := HK1.out; first | omega | exact Nat.le_refl _⟩, ⟨rRa_ HO_5.out⟩, ⟨bw_⟩⟩
    ·rw [if_neg c4] at H
     have c4b0 : decide (x7_1 < (l0.length : Int)) = false := decide_eq_false c4
     clear c4
     (first | rw [c4b0] | (simp only [i64_w, i32_w]; rw [c4b0]) | skip)
     by_cases c5 : x7_1 < (l1.length : Int)
     ·rw [if_pos c5] at H
      have c5b0 : decide (x7_1 < (l1.length : Int)) = true := decide_eq_true c5
      clear c5
      have H' := Aside0.mk H
      clear H
      go_wp2
      go_meet
      case rel => exact ⟨_, (true), sd_, H', ⟨by have := HK1.out; first | omega | exact Nat.le_refl _⟩, ⟨rRa_ HO_5.out⟩, ⟨bw_⟩⟩
     ·rw [if_neg c5] at H
      have c5b0 : decide (x7_1 < (l1.length : Int)) = false := decide_eq_false c5
      clear c5
      have H' := Aside0.mk H
      clear H
      go_wp2
      go_meet
      case rel => exact ⟨_, (decide (x6_1 > 0)), sd_, H', ⟨by have := HK1.out; first | omega | exact Nat.le_refl _⟩, ⟨rRa_ HO_5.out⟩, ⟨bw_⟩⟩
   case rest =>
    clear HC3
    try clear c1
    try clear p2
    try clear c4
    try clear c4b0
    try clear c5
    try clear c5b0
    try clear p2
    obtain ⟨kq, x22_2, rfl, HA, HJ2, HO_5, HB⟩ := hcut
    cases kq with
    |zero => exact absurd HA.out (by simp [torusref02_sum.j1])
    |succ kj2 =>
     have H := HA.out
     clear HA
     simp only [torusref02_sum.j1] at H
     by_cases c6 : x22_2 = true
     ·subst c6
      rw [if_pos rfl] at H
      by_cases c7 : x7_1 < (l0.length : Int)
      ·rw [if_pos c7] at H
       have c7b0 : decide (x7_1 < (l0.length : Int)) = true := decide_eq_true c7
       clear c7
       by_cases c8 : 0 ≤ x7_1
       ·rw [if_pos c8] at H
        have c8b0 : decide (0 ≤ x7_1) = true := decide_eq_true c8
        clear c8
        by_cases c9 : x7_1 < (l1.length : Int)
        ·rw [if_pos c9] at H
         have c9b0 : decide (x7_1 < (l1.length : Int)) = true := decide_eq_true c9
         clear c9
         by_cases c10 : x5_1.length < 17592186044416
         ·rw [if_pos c10] at H
          have LMc10 := Aside0.mk c10
          clear c10
          obtain ⟨y539, hy539⟩ : ∃ y_ : List Int, y_ = (x5_1 ++ [Int.tmod (wrap64 ((wrap64 (x6_1 + (rd l0 x7_1))) + (rd l1 x7_1))) 10]) := ⟨_, rfl⟩
          replace H : (torusref02_sum.l0 kj2 l0 l1 y539 (wrap64 (Int.tdiv (wrap64 ((wrap64 (x6_1 + (rd l0 x7_1))) + (rd l1 x7_1))) 10)) (wrap64 (x7_1 + 1))) = some r := by first | (rw [hy539]; with_reducible exact H) | (have H2_ := (Option.bind_some _ _).symm.trans H; rw [hy539]; with_reducible exact H2_) | (have H2_ := (Option.bind_some _ _).symm.trans H; with_reducible exact H2_) | with_reducible exact H | (rw [hy539]; exact H) | exact H
          have Ny539 := Aside0.mk hy539
          clear hy539
          have H' := Aside0.mk H
          clear H
          have p537 : 0 ≤ (x7_1 : Int) := of_decide_eq_true as_
          have q537 : x7_1 < (l0.length : Int) := of_decide_eq_true as_
          obtain ⟨ad537, e537, hx537_0⟩ := Kd.at_int HR0.out x7_1 p537 q537
          cases e537
          replace hx537_0 := (HB.out.cell (World.block_lt_of_cell? w _ hx537_0)).trans hx537_0
          replace p537 := eq_true p537
          replace q537 := eq_true q537
          have p538 : 0 ≤ (x7_1 : Int) := of_decide_eq_true as_
          have q538 : x7_1 < (l1.length : Int) := of_decide_eq_true as_
          obtain ⟨ad538, e538, hx538_0⟩ := Kd.at_int HR1.out x7_1 p538 q538
          cases e538
          replace hx538_0 := (HB.out.cell (World.block_lt_of_cell? w _ hx538_0)).trans hx538_0
          replace p538 := eq_true p538
          replace q538 := eq_true q538
          go_wp2_with (first | ((with_reducible refine gate_builtin (b := .append) (xs := #[.tmp 46, .tmp 49]) rfl ?_); (try (refine gate_guard (by rfl) ?_; dsimp only)); at_builtin; refine Kd.R_append (Kd.int .i64) (w0 := w) w.heap.size rfl (.tmp 46) (.tmp 49) 146 3 (.int .i64 0) 8 rfl Tryz.underlying146 info3 rfl (by decide) (by omega) u5 x5_1 (Int.tmod (wrap64 ((wrap64 (x6_1 + (rd l0 x7_1))) + (rd l1 x7_1))) 10) [.int .i64 (Int.tmod (wrap64 ((wrap64 (x6_1 + (rd l0 x7_1))) + (rd l1 x7_1))) 10)] (fun _ => True) (fun _ => False) rfl rfl ?aP (fun _ hk => hk.elim) ?aF ?aO ?aB ?aS ?aL ?_; (case aP => exact rfl); (case aB => exact bw_); (case aF => exact (fun _ _ => trivial)); (case aO => exact (rRa_ HO_5.out)); (case aS => exact (below_size bw_)); (case aL => have := LMc10.out; omega); intro v540 w11 ho hb hg hat; rw [← Ny539.out] at ho; have n0_ := Aside0.mk (hb); have n1_ := Aside0.mk (ho); clear HB; clear HO_5; have HB := n0_; have HO541 := n1_; clear n0_ n1_; clear ho hb hg hat))
          go_roundg kj2
          case measure => have := HK1.out; have := HJ2.out; omega
          case rel => exact ⟨(y539), (wrap64 (Int.tdiv (wrap64 ((wrap64 (x6_1 + (rd l0 x7_1))) + (rd l1 x7_1))) 10)), (wrap64 (x7_1 + 1)), sd_, sd_, H', ⟨by have := HK1.out; have := HJ2.out; omega⟩, ⟨rRa_ HO541.out⟩, ⟨bw_⟩⟩
         ·rw [if_neg c10] at H
          exact absurd H (by simp)
        ·rw [if_neg c9] at H
         have c9b0 : decide (x7_1 < (l1.length : Int)) = false := decide_eq_false c9
         clear c9
         by_cases c12 : x5_1.length < 17592186044416
         ·rw [if_pos c12] at H
          have LMc12 := Aside0.mk c12
          clear c12
          obtain ⟨y542, hy542⟩ : ∃ y_ : List Int, y_ = (x5_1 ++ [Int.tmod (wrap64 (x6_1 + (rd l0 x7_1))) 10]) := ⟨_, rfl⟩
          replace H : (torusref02_sum.l0 kj2 l0 l1 y542 (wrap64 (Int.tdiv (wrap64 (x6_1 + (rd l0 x7_1))) 10)) (wrap64 (x7_1 + 1))) = some r := by first | (rw [hy542]; with_reducible exact H) | (have H2_ := (Option.bind_some _ _).symm.trans H; rw [hy542]; with_reducible exact H2_) | (have H2_ := (Option.bind_some _ _).symm.trans H; with_reducible exact H2_) | with_reducible exact H | (rw [hy542]; exact H) | exact H
          have Ny542 := Aside0.mk hy542
          clear hy542
          have H' := Aside0.mk H
          clear H
          have p537 : 0 ≤ (x7_1 : Int) := of_decide_eq_true as_
          have q537 : x7_1 < (l0.length : Int) := of_decide_eq_true as_
          obtain ⟨ad537, e537, hx537_0⟩ := Kd.at_int HR0.out x7_1 p537 q537
          cases e537
          replace hx537_0 := (HB.out.cell (World.block_lt_of_cell? w _ hx537_0)).trans hx537_0
          replace p537 := eq_true p537
          replace q537 := eq_true q537
          go_wp2_with (first | ((with_reducible refine gate_builtin (b := .append) (xs := #[.tmp 46, .tmp 49]) rfl ?_); (try (refine gate_guard (by rfl) ?_; dsimp only)); at_builtin; refine Kd.R_append (Kd.int .i64) (w0 := w) w.heap.size rfl (.tmp 46) (.tmp 49) 146 3 (.int .i64 0) 8 rfl Tryz.underlying146 info3 rfl (by decide) (by omega) u5 x5_1 (Int.tmod (wrap64 (x6_1 + (rd l0 x7_1))) 10) [.int .i64 (Int.tmod (wrap64 (x6_1 + (rd l0 x7_1))) 10)] (fun _ => True) (fun _ => False) rfl rfl ?aP (fun _ hk => hk.elim) ?aF ?aO ?aB ?aS ?aL ?_; (case aP => exact rfl); (case aB => exact bw_); (case aF => exact (fun _ _ => trivial)); (case aO => exact (rRa_ HO_5.out)); (case aS => exact (below_size bw_)); (case aL => have := LMc12.out; omega); intro v543 w13 ho hb hg hat; rw [← Ny542.out] at ho; have n0_ := Aside0.mk (hb); have n1_ := Aside0.mk (ho); clear HB; clear HO_5; have HB := n0_; have HO544 := n1_; clear n0_ n1_; clear ho hb hg hat))
          go_roundg kj2
          case measure => have := HK1.out; have := HJ2.out; omega
          case rel => exact ⟨(y542), (wrap64 (Int.tdiv (wrap64 (x6_1 + (rd l0 x7_1))) 10)), (wrap64 (x7_1 + 1)), sd_, sd_, H', ⟨by have := HK1.out; have := HJ2.out; omega⟩, ⟨rRa_ HO544.out⟩, ⟨bw_⟩⟩
         ·rw [if_neg c12] at H
          exact absurd H (by simp)
       ·rw [if_neg c8] at H
        exact absurd H (by simp)
      ·rw [if_neg c7] at H
       have c7b0 : decide (x7_1 < (l0.length : Int)) = false := decide_eq_false c7
       clear c7
       by_cases c14 : x7_1 < (l1.length : Int)
       ·rw [if_pos c14] at H
        have c14b0 : decide (x7_1 < (l1.length : Int)) = true := decide_eq_true c14
        clear c14
        by_cases c15 : 0 ≤ x7_1
        ·rw [if_pos c15] at H
         have c15b0 : decide (0 ≤ x7_1) = true := decide_eq_true c15
         clear c15
         by_cases c16 : x5_1.length < 17592186044416
         ·rw [if_pos c16] at H
          have LMc16 := Aside0.mk c16
          clear c16
          obtain ⟨y546, hy546⟩ : ∃ y_ : List Int, y_ = (x5_1 ++ [Int.tmod (wrap64 (x6_1 + (rd l1 x7_1))) 10]) := ⟨_, rfl⟩
          replace H : (torusref02_sum.l0 kj2 l0 l1 y546 (wrap64 (Int.tdiv (wrap64 (x6_1 + (rd l1 x7_1))) 10)) (wrap64 (x7_1 + 1))) = some r := by first | (rw [hy546]; with_reducible exact H) | (have H2_ := (Option.bind_some _ _).symm.trans H; rw [hy546]; with_reducible exact H2_) | (have H2_ := (Option.bind_some _ _).symm.trans H; with_reducible exact H2_) | with_reducible exact H | (rw [hy546]; exact H) | exact H
          have Ny546 := Aside0.mk hy546
          clear hy546
          have H' := Aside0.mk H
          clear H
          have p545 : 0 ≤ (x7_1 : Int) := of_decide_eq_true as_
          have q545 : x7_1 < (l1.length : Int) := of_decide_eq_true as_
          obtain ⟨ad545, e545, hx545_0⟩ := Kd.at_int HR1.out x7_1 p545 q545
          cases e545
          replace hx545_0 := (HB.out.cell (World.block_lt_of_cell? w _ hx545_0)).trans hx545_0
          replace p545 := eq_true p545
          replace q545 := eq_true q545
          go_wp2_with (first | ((with_reducible refine gate_builtin (b := .append) (xs := #[.tmp 46, .tmp 49]) rfl ?_); (try (refine gate_guard (by rfl) ?_; dsimp only)); at_builtin; refine Kd.R_append (Kd.int .i64) (w0 := w) w.heap.size rfl (.tmp 46) (.tmp 49) 146 3 (.int .i64 0) 8 rfl Tryz.underlying146 info3 rfl (by decide) (by omega) u5 x5_1 (Int.tmod (wrap64 (x6_1 + (rd l1 x7_1))) 10) [.int .i64 (Int.tmod (wrap64 (x6_1 + (rd l1 x7_1))) 10)] (fun _ => True) (fun _ => False) rfl rfl ?aP (fun _ hk => hk.elim) ?aF ?aO ?aB ?aS ?aL ?_; (case aP => exact rfl); (case aB => exact bw_); (case aF => exact (fun _ _ => trivial)); (case aO => exact (rRa_ HO_5.out)); (case aS => exact (below_size bw_)); (case aL => have := LMc16.out; omega); intro v547 w17 ho hb hg hat; rw [← Ny546.out] at ho; have n0_ := Aside0.mk (hb); have n1_ := Aside0.mk (ho); clear HB; clear HO_5; have HB := n0_; have HO548 := n1_; clear n0_ n1_; clear ho hb hg hat))
          go_roundg kj2
          case measure => have := HK1.out; have := HJ2.out; omega
          case rel => exact ⟨(y546), (wrap64 (Int.tdiv (wrap64 (x6_1 + (rd l1 x7_1))) 10)), (wrap64 (x7_1 + 1)), sd_, sd_, H', ⟨by have := HK1.out; have := HJ2.out; omega⟩, ⟨rRa_ HO548.out⟩, ⟨bw_⟩⟩
         ·rw [if_neg c16] at H
          exact absurd H (by simp)
        ·rw [if_neg c15] at H
         exact absurd H (by simp)
       ·rw [if_neg c14] at H
        have c14b0 : decide (x7_1 < (l1.length : Int)) = false := decide_eq_false c14
        clear c14
        by_cases c18 : x5_1.length < 17592186044416
        ·rw [if_pos c18] at H
         have LMc18 := Aside0.mk c18
         clear c18
         obtain ⟨y549, hy549⟩ : ∃ y_ : List Int, y_ = (x5_1 ++ [Int.tmod x6_1 10]) := ⟨_, rfl⟩
         replace H : (torusref02_sum.l0 kj2 l0 l1 y549 (wrap64 (Int.tdiv x6_1 10)) (wrap64 (x7_1 + 1))) = some r := by first | (rw [hy549]; with_reducible exact H) | (have H2_ := (Option.bind_some _ _).symm.trans H; rw [hy549]; with_reducible exact H2_) | (have H2_ := (Option.bind_some _ _).symm.trans H; with_reducible exact H2_) | with_reducible exact H | (rw [hy549]; exact H) | exact H
         have Ny549 := Aside0.mk hy549
         clear hy549
         have H' := Aside0.mk H
         clear H
         go_wp2_with (first | ((with_reducible refine gate_builtin (b := .append) (xs := #[.tmp 46, .tmp 49]) rfl ?_); (try (refine gate_guard (by rfl) ?_; dsimp only)); at_builtin; refine Kd.R_append (Kd.int .i64) (w0 := w) w.heap.size rfl (.tmp 46) (.tmp 49) 146 3 (.int .i64 0) 8 rfl Tryz.underlying146 info3 rfl (by decide) (by omega) u5 x5_1 (Int.tmod x6_1 10) [.int .i64 (Int.tmod x6_1 10)] (fun _ => True) (fun _ => False) rfl rfl ?aP (fun _ hk => hk.elim) ?aF ?aO ?aB ?aS ?aL ?_; (case aP => exact rfl); (case aB => exact bw_); (case aF => exact (fun _ _ => trivial)); (case aO => exact (rRa_ HO_5.out)); (case aS => exact (below_size bw_)); (case aL => have := LMc18.out; omega); intro v550 w19 ho hb hg hat; rw [← Ny549.out] at ho; have n0_ := Aside0.mk (hb); have n1_ := Aside0.mk (ho); clear HB; clear HO_5; have HB := n0_; have HO551 := n1_; clear n0_ n1_; clear ho hb hg hat))
         go_roundg kj2
         case measure => have := HK1.out; have := HJ2.out; omega
         case rel => exact ⟨(y549), (wrap64 (Int.tdiv x6_1 10)), (wrap64 (x7_1 + 1)), sd_, sd_, H', ⟨by have := HK1.out; have := HJ2.out; omega⟩, ⟨rRa_ HO551.out⟩, ⟨bw_⟩⟩
        ·rw [if_neg c18] at H
         exact absurd H (by simp)
     ·replace c6 := Bool.eq_false_iff.mpr c6
      subst c6
      rw [if_neg (show ¬ (false = true) by decide)] at H
      obtain rfl := Option.some.inj H
      go_wp2
      go_ret
      exact ⟨_, by first | rfl | (simp [errW_none, errW_some] <;> rfl) | (simp [*, errW_none, errW_some] <;> rfl), rRa_ HO_5.out, bw_⟩
end Go.Proofs.YtfmcgammhfdfnaaGreatDoor.PRatio

