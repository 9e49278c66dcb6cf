/- Go functions as plain Lean functions, each with a proof that the Go code computes just that, and facts on them; conditions: those that each theorem states. -/
import Derived.Test.YtfmcgammhfdfnaaGreatDoorQText4
namespace Go.Proofs.YtfmcgammhfdfnaaGreatDoor.PRatio
open Go.RowKit Go.Proofs.YtfmcgammhfdfnaaGreatDoorW.PrintWords Go.Proofs.YtfmcgammhfdfnaaGreatDoorW.PrintLast Go.Proofs.YtfmcgammhfdfnaaGreatDoorW.PrintMore
set_option linter.unusedVariables false
set_option linter.unusedSimpArgs false
set_option maxHeartbeats 8000000
set_option maxRecDepth 100000
def dgl (l : List Int) : Bool := l.all isd && !l.isEmpty
def parL (l : List Int) : Except Int (Int × Int) :=
 if (46 : Int) ∈ l then
  (if dgl (l.takeWhile (· != 46)) = true ∧ dgl (l.dropWhile (· != 46)).tail = true then .ok (tv (l.takeWhile (· != 46) ++ (l.dropWhile (· != 46)).tail), 10 ^ (l.dropWhile (· != 46)).tail.length) else .error 2)
 else if (47 : Int) ∈ l then
  (if dgl (l.takeWhile (· != 47)) = true ∧ dgl (l.dropWhile (· != 47)).tail = true then (if tv (l.dropWhile (· != 47)).tail = 0 then .error 9 else .ok (tv (l.takeWhile (· != 47)), tv (l.dropWhile (· != 47)).tail)) else .error 2)
 else if dgl l = true then .ok (tv l, 1) else .error 2
def parS (s : ByteArray) : ByteArray × Int := if 4000 < s.size then (⟨#[]⟩, 3) else
 match parL (bytesOf (cutm s).1) with
 |.error c => (⟨#[]⟩, c)
 |.ok p => res (Rat.divInt (if (cutm s).2 = true then -p.1 else p.1) p.2)
theorem cutat_list {c : Int} {a b : List Int} (h : c ∉ a) : (a ++ c :: b).takeWhile (· != c) = a ∧ ((a ++ c :: b).dropWhile (· != c)).tail = b := by
 constructor
 ·rw [List.takeWhile_append_of_pos (fun x hx => by simp; rintro rfl; exact h hx)]
  simp
 ·rw [List.dropWhile_append_of_pos (fun x hx => by simp; rintro rfl; exact h hx)]
  simp
theorem parL_dot {r h t : ByteArray} (hc : CutAt r 46 h t true) : parL (bytesOf r) = if dgs h = true ∧ dgs t = true then .ok (tv (bytesOf h ++ bytesOf t), 10 ^ t.size) else .error 2 := by
 have e : bytesOf r = bytesOf h ++ 46 :: bytesOf t := hc.yes rfl
 have ho : (46 : Int) ∉ bytesOf h := hc.out rfl
 unfold parL
 rw [e, if_pos (by simp), (cutat_list ho).1, (cutat_list ho).2, bytesOf_size]
 rfl
theorem parL_slash {r h t x y : ByteArray} (hd : CutAt r 46 x y false) (hc : CutAt r 47 h t true) : parL (bytesOf r) = if dgs h = true ∧ dgs t = true then (if tv (bytesOf t) = 0 then .error 9 else .ok (tv (bytesOf h), tv (bytesOf t))) else .error 2 := by
 have hn : (46 : Int) ∉ bytesOf r := (hd.no rfl).2.2
 have e : bytesOf r = bytesOf h ++ 47 :: bytesOf t := hc.yes rfl
 have ho : (47 : Int) ∉ bytesOf h := hc.out rfl
 unfold parL
 rw [if_neg hn, e, if_pos (by simp), (cutat_list ho).1, (cutat_list ho).2]
 rfl
theorem parL_int {r h t x y : ByteArray} (hd : CutAt r 46 x y false) (hc : CutAt r 47 h t false) : parL (bytesOf r) = if dgs r = true then .ok (tv (bytesOf r), 1) else .error 2 := by
 have hn : (46 : Int) ∉ bytesOf r := (hd.no rfl).2.2
 have hn' : (47 : Int) ∉ bytesOf r := (hc.no rfl).2.2
 unfold parL
 rw [if_neg hn, if_neg hn']
 rfl
section
variable {W : World} {s : ByteArray}
theorem dgs_of {b : Bool} (h : dgs s = b) : Calls Tryz.prog 82 #[.string s] W fun e w' => Below W.heap.size W w' ∧ (fun e w' => e = .returned (.bool b)) e w' := h ▸ isdigits_calls W s
theorem plain_of {z : Int} (hd : (bytesOf s).all isd = true) (hz : tv (bytesOf s) = z) (hs : s.size ≤ 9000000000000) : Calls Tryz.prog 83 #[.string s] W fun e w' => Below W.heap.size W w' ∧ RW z e w' := hz ▸ plain_calls W s hd hs
theorem cont_of {b : Bool} (h : decide ((46 : Int) ∈ bytesOf s) = b) : Calls Tryz.prog 85 #[.string s, .string ⟨#[46]⟩] W fun e w' => Below W.heap.size W w' ∧ (fun e w' => e = .returned (.bool b)) e w' := by
 have := cont_calls s 46 W
 subst h
 exact this
theorem rep_of {k : Nat} {z : ByteArray} (hz : (⟨(Lib.repeatL [48] k).toArray⟩ : ByteArray) = z) (hk : k ≤ 4000) : Calls Tryz.prog 81 #[.string ⟨#[48]⟩, .int .i64 k] W fun e w' => Below W.heap.size W w' ∧ (fun e w' => e = .returned (.string z)) e w' := by
 have := Tryz.strings_Repeat ⟨#[48]⟩ k W (by omega) (by show 1 * k ≤ _; omega)
 subst hz
 exact this.mono fun e w' h => ⟨h.2, h.1⟩
end
theorem repL_bytes (k : Nat) : bytesOf ⟨(Lib.repeatL [48] k).toArray⟩ = List.replicate k 48 := by
 induction k with
 |zero => rfl
 |succ k ih =>
  rw [List.replicate_succ, ← ih]
  simp [bytesOf, Lib.repeatL]
theorem one_zeros (k : Nat) : tv (bytesOf (⟨#[49]⟩ ++ ⟨(Lib.repeatL [48] k).toArray⟩)) = 10 ^ k ∧ (bytesOf (⟨#[49]⟩ ++ ⟨(Lib.repeatL [48] k).toArray⟩)).all isd = true := by
 have e1 : bytesOf ⟨#[49]⟩ = [49] := rfl
 rw [bytesOf_append, repL_bytes, e1, tv_append, List.length_replicate]
 have e2 : tv (List.replicate k 48) = 0 := by have := tv_zeros k []; rw [List.append_nil] at this; rw [this]; rfl
 have e3 : tv [49] = 1 := by decide
 rw [e2, e3]
 refine ⟨by omega, ?_⟩
 rw [List.all_append, Bool.and_eq_true]
 exact ⟨by decide, List.all_eq_true.2 fun x hx => by rw [List.eq_of_mem_replicate hx]; decide⟩
theorem tv_ln {l : List Int} (h : l.all isd = true) (hl : l.length ≤ 9000) : Ln (tv l) 1000 := by
 have h1 := tv_lim h
 have h2 : (tv l).natAbs < 10 ^ l.length := by
  have e : ((10 ^ l.length : Nat) : Int) = 10 ^ l.length := by rw [Int.natCast_pow]; rfl
  have := h1.2
  rw [← e] at this
  omega
 have h3 := (nd_le l.length (tv l).natAbs).2 h2
 exact (ln_nd (k := 9000) (by omega)).mono (by omega)
theorem dgs_all {s : ByteArray} (h : dgs s = true) : (bytesOf s).all isd = true := by
 unfold dgs at h
 rw [Bool.and_eq_true] at h
 exact h.1
theorem dgs_pos {s : ByteArray} (h : dgs s = true) : 0 < s.size := by
 unfold dgs at h
 rw [Bool.and_eq_true] at h
 have := h.2
 rw [← bytesOf_size]
 cases hb : bytesOf s with
 |nil => rw [hb] at this; cases this
 |cons a l => simp
theorem parse_calls (W : World) (s : ByteArray) (hs : s.size ≤ 9223372036854775807) : Calls Tryz.prog 13 #[.string s] W fun e w' => Below W.heap.size W w' ∧ e = .returned (.tuple #[.string (parS s).1, .int .i64 (parS s).2]) := by
 have E := Env.start W
 by_cases hl : 4000 < s.size
 ·have hb : decide ((4000 : Int) < (s.size : Int)) = true := decide_eq_true (by omega)
  have e : parS s = (⟨#[]⟩, 3) := if_pos hl
  rw [e]
  clear hl e hs
  go_enter Tryz.func13, Tryz.ntmps13
  go_wp2
  refine bodyPost_ret (results_list (rs := [.tmp _, .tmp _]) rfl (by simp) (.tmp (.tmp .nil))) rfl ?_
  exact ⟨E.below, rfl⟩
 have hlb : decide ((4000 : Int) < (s.size : Int)) = false := decide_eq_false (by omega)
 obtain ⟨r, mi, hc⟩ : ∃ r mi, cutm s = (r, mi) := ⟨_, _, rfl⟩
 have e : parS s = match parL (bytesOf r) with | .error c => (⟨#[]⟩, c) | .ok p => res (Rat.divInt (if mi = true then -p.1 else p.1) p.2) := by
  unfold parS
  rw [if_neg hl, hc]
 rw [e]
 have hrs := (cutm_spec hc).2.2
 have HC := Aside0.mk hc
 have HRS := Aside0.mk (show r.size ≤ 9000000000000 by omega)
 have HR4 := Aside0.mk (show r.size ≤ 4000 by omega)
 clear hl e hc hrs hs
 obtain ⟨F, hF⟩ : ∃ F : UInt8 → ByteArray × ByteArray × Bool, ∀ c, CutAt r c (F c).1 (F c).2.1 (F c).2.2 := Classical.axiomOfChoice (r := fun (c : UInt8) (p : ByteArray × ByteArray × Bool) => CutAt r c p.1 p.2.1 p.2.2) fun c => by
  obtain ⟨a, b, f, h⟩ := cut_ex r c
  exact ⟨(a, b, f), h⟩
 have HF := Aside0.mk hF
 obtain ⟨x, y, fd, h46⟩ : ∃ x y f, F 46 = (x, y, f) := ⟨_, _, _, rfl⟩
 have hd : CutAt r 46 x y fd := by have := hF 46; rw [h46] at this; exact this
 have HD := Aside0.mk hd
 have F46 := Aside0.mk h46
 clear h46
 cases fd with
 |true =>
  rw [parL_dot hd]
  have hxy := hd.size
  obtain ⟨z, hz⟩ : ∃ z : ByteArray, (⟨(Lib.repeatL [48] y.size).toArray⟩ : ByteArray) = z := ⟨_, rfl⟩
  obtain ⟨bl, hbl⟩ : ∃ bl : ByteArray, (⟨#[49]⟩ ++ z : ByteArray) = bl := ⟨_, rfl⟩
  obtain ⟨xy, hxyc⟩ : ∃ xy : ByteArray, x ++ y = xy := ⟨_, rfl⟩
  have hzs : z.size = y.size := by rw [← bytesOf_size, ← hz, repL_bytes, List.length_replicate]
  have HZ := Aside0.mk hz
  have HK := Aside0.mk (show y.size ≤ 4000 by have := HR4.out; omega)
  have hsz1 : (9223372036854775807 < 1 + z.size) = False := eq_false (by have := HK.out; omega)
  have hsz2 : (9223372036854775807 < x.size + y.size) = False := eq_false (by have := HR4.out; omega)
  have h1z := one_zeros y.size
  rw [hz, hbl] at h1z
  clear hd hF
  cases hx : dgs x with
  |false =>
   have HX := Aside0.mk hx
   rw [if_neg (fun h => by cases h.1)]
   clear hx hxy hz hzs h1z
   show Calls Tryz.prog 13 #[Value.string s] W fun e w' => Below W.heap.size W w' ∧ e = .returned (.tuple #[.string ⟨#[]⟩, .int .i64 2])
   go_enter Tryz.func13, Tryz.ntmps13
   go_wp2_with (first | ((with_reducible first | refine gate_box (by rfl) ?_ | refine gate_alloc (by rfl) ?_); refine bx_ E ?_; clear E; intro gb wb E; have q := E.cls; (repeat obtain ⟨_, _, q⟩ := q); clear q) | ((with_reducible refine gate_stored (t := 77) (by rfl) ?_); refine st_ (fun ws hs_ => ?_); replace E := Env.pt2 hs_ E; clear hs_; have q := E.cls; (repeat obtain ⟨_, _, q⟩ := q); clear q) | (go_at_call 79; refine env_call E (cutp_calls _ s) ?_; clear E; rintro e wc E rfl; rw [HC.out]; have q := E.cls; (repeat obtain ⟨_, _, q⟩ := q); clear q) | (go_at_call 80; refine env_call E (cut_of _ (HF.out _) HRS.out) ?_; clear E; rintro e wc E rfl; rw [F46.out]; dsimp only; have q := E.cls; (repeat obtain ⟨_, _, q⟩ := q); clear q) | (go_at_call 81; refine env_call E (rep_of (k := y.size) HZ.out HK.out) ?_; clear E; rintro e wc E rfl; have q := E.cls; (repeat obtain ⟨_, _, q⟩ := q); clear q) | (go_at_call 82; refine env_call E (dgs_of HX.out) ?_; clear E; rintro e wc E rfl; have q := E.cls; (repeat obtain ⟨_, _, q⟩ := q); clear q))
   refine bodyPost_ret (results_list (rs := [.tmp _, .tmp _]) rfl (by simp) (.tmp (.tmp .nil))) rfl ?_
   exact ⟨E.below, rfl⟩
  |true =>
   cases hy : dgs y with
   |false =>
    have HX := Aside0.mk hx
    have HY := Aside0.mk hy
    rw [if_neg (fun h => by cases h.2)]
    clear hx hy hxy hz hzs h1z
    show Calls Tryz.prog 13 #[Value.string s] W fun e w' => Below W.heap.size W w' ∧ e = .returned (.tuple #[.string ⟨#[]⟩, .int .i64 2])
    go_enter Tryz.func13, Tryz.ntmps13
    go_wp2_with (first | ((with_reducible first | refine gate_box (by rfl) ?_ | refine gate_alloc (by rfl) ?_); refine bx_ E ?_; clear E; intro gb wb E; have q := E.cls; (repeat obtain ⟨_, _, q⟩ := q); clear q) | ((with_reducible refine gate_stored (t := 77) (by rfl) ?_); refine st_ (fun ws hs_ => ?_); replace E := Env.pt2 hs_ E; clear hs_; have q := E.cls; (repeat obtain ⟨_, _, q⟩ := q); clear q) | (go_at_call 79; refine env_call E (cutp_calls _ s) ?_; clear E; rintro e wc E rfl; rw [HC.out]; have q := E.cls; (repeat obtain ⟨_, _, q⟩ := q); clear q) | (go_at_call 80; refine env_call E (cut_of _ (HF.out _) HRS.out) ?_; clear E; rintro e wc E rfl; rw [F46.out]; dsimp only; have q := E.cls; (repeat obtain ⟨_, _, q⟩ := q); clear q) | (go_at_call 81; refine env_call E (rep_of (k := y.size) HZ.out HK.out) ?_; clear E; rintro e wc E rfl; have q := E.cls; (repeat obtain ⟨_, _, q⟩ := q); clear q) | (go_at_call 82; refine env_call E (dgs_of HX.out) ?_; clear E; rintro e wc E rfl; have q := E.cls; (repeat obtain ⟨_, _, q⟩ := q); clear q) | (go_at_call 82; refine env_call E (dgs_of HY.out) ?_; clear E; rintro e wc E rfl; have q := E.cls; (repeat obtain ⟨_, _, q⟩ := q); clear q))
    refine bodyPost_ret (results_list (rs := [.tmp _, .tmp _]) rfl (by simp) (.tmp (.tmp .nil))) rfl ?_
    exact ⟨E.below, rfl⟩
   |true =>
    have HX := Aside0.mk hx
    have HY := Aside0.mk hy
    rw [if_pos ⟨rfl, rfl⟩]
    obtain ⟨nn, hn⟩ : ∃ n, tv (bytesOf xy) = n := ⟨_, rfl⟩
    obtain ⟨nx, hnx⟩ : ∃ n, tv (bytesOf x) = n := ⟨_, rfl⟩
    obtain ⟨dd, hdd⟩ : ∃ d : Int, 10 ^ y.size = d := ⟨_, rfl⟩
    have hall : (bytesOf xy).all isd = true := by rw [← hxyc, bytesOf_append, List.all_append, dgs_all hx, dgs_all hy]; rfl
    rw [← bytesOf_append, hxyc, hn, hdd]
    have PX := Aside0.mk (show (bytesOf x).all isd = true ∧ tv (bytesOf x) = nx ∧ x.size ≤ 9000000000000 from ⟨dgs_all hx, hnx, by have := HR4.out; omega⟩)
    have PXY := Aside0.mk (show (bytesOf xy).all isd = true ∧ tv (bytesOf xy) = nn ∧ xy.size ≤ 9000000000000 from ⟨hall, hn, by rw [← hxyc, ByteArray.size_append]; have := HR4.out; omega⟩)
    have hbll : (bytesOf bl).length = 1 + y.size := by rw [← hbl, bytesOf_append, List.length_append, bytesOf_size z, hzs]; rfl
    have PZ := Aside0.mk (show (bytesOf bl).all isd = true ∧ tv (bytesOf bl) = dd ∧ bl.size ≤ 9000000000000 from ⟨h1z.2, h1z.1.trans hdd, by rw [← bytesOf_size, hbll]; have := HR4.out; omega⟩)
    have hp := dgs_pos hy
    have hdp : 0 < dd := by rw [← hdd]; exact Ten.pow_pos _
    have D0 := Aside0.mk (show dd ≠ 0 by omega)
    have hs0 : (sgnI dd == 0) = false := beq_eq_false_iff_ne.mpr (fun h => D0.out ((sgnI_zero _).1 h))
    have hln : decide ((1 : Int) < (bl.size : Int)) = true := decide_eq_true (by rw [← bytesOf_size, hbll]; omega)
    have hln2 : decide ((1 : Int) < ((1 + z.size : Nat) : Int)) = true := decide_eq_true (by omega)
    have hln3 : decide ((1 : Int) < (1 : Int) + (z.size : Int)) = true := decide_eq_true (by omega)
    have CN := Aside0.mk (show decide ((46 : Int) ∈ bytesOf r) = true from decide_eq_true (by rw [HD.out.yes rfl]; simp))
    have LN := Aside0.mk (show Ln nn 1000 by rw [← hn]; exact tv_ln hall (by rw [bytesOf_size, ← hxyc, ByteArray.size_append]; have := HR4.out; omega))
    have LD := Aside0.mk (show Ln dd 1000 by rw [← PZ.out.2.1]; exact tv_ln h1z.2 (by rw [hbll]; have := HR4.out; omega))
    clear hx hy hxy hz hzs h1z hn hdd hall hbll hp hdp hnx
    cases mi with
    |true =>
     have LNN := Aside0.mk (show Ln (-nn) 1000 from LN.out.neg)
     show Calls Tryz.prog 13 #[Value.string s] W fun e w' => Below W.heap.size W w' ∧ e = .returned (.tuple #[.string (res (Rat.divInt (-nn) dd)).1, .int .i64 (res (Rat.divInt (-nn) dd)).2])
     go_enter Tryz.func13, Tryz.ntmps13
     go_wp2_with (first | ((with_reducible first | refine gate_box (by rfl) ?_ | refine gate_alloc (by rfl) ?_); refine bx_ E ?_; clear E; intro gb wb E; have q := E.cls; (repeat obtain ⟨_, _, q⟩ := q); clear q) | ((with_reducible refine gate_stored (t := 77) (by rfl) ?_); refine st_ (fun ws hs_ => ?_); replace E := Env.pt2 hs_ E; clear hs_; have q := E.cls; (repeat obtain ⟨_, _, q⟩ := q); clear q) | (go_at_call 79; refine env_call E (cutp_calls _ s) ?_; clear E; rintro e wc E rfl; rw [HC.out]; have q := E.cls; (repeat obtain ⟨_, _, q⟩ := q); clear q) | (go_at_call 80; refine env_call E (cut_of _ (HF.out _) HRS.out) ?_; clear E; rintro e wc E rfl; rw [F46.out]; dsimp only; have q := E.cls; (repeat obtain ⟨_, _, q⟩ := q); clear q) | (go_at_call 81; refine env_call E (rep_of (k := y.size) HZ.out HK.out) ?_; clear E; rintro e wc E rfl; have q := E.cls; (repeat obtain ⟨_, _, q⟩ := q); clear q) | (go_at_call 82; refine env_call E (dgs_of HX.out) ?_; clear E; rintro e wc E rfl; have q := E.cls; (repeat obtain ⟨_, _, q⟩ := q); clear q) | (go_at_call 82; refine env_call E (dgs_of HY.out) ?_; clear E; rintro e wc E rfl; have q := E.cls; (repeat obtain ⟨_, _, q⟩ := q); clear q) | (go_at_call 83; refine env_call E (plain_of PX.out.1 PX.out.2.1 PX.out.2.2) ?_; clear E; rintro e wc E ⟨br, Ar, nr, cr, rfl, hw_⟩; replace E := E.wh hw_; clear hw_; have q := E.cls; (repeat obtain ⟨_, _, q⟩ := q); clear q) | (go_at_call 83; refine env_call E (plain_of PXY.out.1 PXY.out.2.1 PXY.out.2.2) ?_; clear E; rintro e wc E ⟨br, Ar, nr, cr, rfl, hw_⟩; replace E := E.wh hw_; clear hw_; have q := E.cls; (repeat obtain ⟨_, _, q⟩ := q); clear q) | (go_at_call 83; refine env_call E (plain_of PZ.out.1 PZ.out.2.1 PZ.out.2.2) ?_; clear E; rintro e wc E ⟨br, Ar, nr, cr, rfl, hw_⟩; replace E := E.wh hw_; clear hw_; have q := E.cls; (repeat obtain ⟨_, _, q⟩ := q); clear q) | (go_at_call 84; refine env_call E (sign_calls E.getW) ?_; clear E; rintro e wc E rfl; have q := E.cls; (repeat obtain ⟨_, _, q⟩ := q); clear q) | (go_at_call 85; refine env_call E (cont_of CN.out) ?_; clear E; rintro e wc E rfl; have q := E.cls; (repeat obtain ⟨_, _, q⟩ := q); clear q) | (go_at_call 86; refine env_call E (neg_calls E.getW) ?_; clear E; rintro e wc E ⟨br, Ar, nr, cr, rfl, hw_⟩; replace E := E.wh hw_; clear hw_; have q := E.cls; (repeat obtain ⟨_, _, q⟩ := q); clear q) | (go_at_call 88; refine env_call E (over_calls (m := -nn) (d := dd) E.getW E.getW D0.out (LNN.out.fits (by omega)) (LD.out.fits (by omega))) ?_; clear E; rintro e wc E ⟨br, Ar, nr, cr, br2, Ar2, nr2, cr2, rfl, hw_, hw2_⟩; replace E := (E.wh hw_).wh hw2_; clear hw_ hw2_; have q := E.cls; (repeat obtain ⟨_, _, q⟩ := q); clear q) | (go_at_call 87; refine env_call E (result_calls (q := Rat.divInt (-nn) dd) E.getW E.getW rfl (dn_den _) ((lnq_div LNN.out LD.out (by omega)).1.mono (by omega)) ((lnq_div LNN.out LD.out (by omega)).2.mono (by omega))) ?_; clear E; rintro e wc E rfl; have q := E.cls; (repeat obtain ⟨_, _, q⟩ := q); clear q))
     refine bodyPost_ret (results_list (rs := [.tmp _, .tmp _]) rfl (by simp) (.tmp (.tmp .nil))) rfl ?_
     exact ⟨E.below, rfl⟩
    |false =>
     have LNN := Aside0.mk (show Ln (nn) 1000 from LN.out)
     show Calls Tryz.prog 13 #[Value.string s] W fun e w' => Below W.heap.size W w' ∧ e = .returned (.tuple #[.string (res (Rat.divInt (nn) dd)).1, .int .i64 (res (Rat.divInt (nn) dd)).2])
     go_enter Tryz.func13, Tryz.ntmps13
     go_wp2_with (first | ((with_reducible first | refine gate_box (by rfl) ?_ | refine gate_alloc (by rfl) ?_); refine bx_ E ?_; clear E; intro gb wb E; have q := E.cls; (repeat obtain ⟨_, _, q⟩ := q); clear q) | ((with_reducible refine gate_stored (t := 77) (by rfl) ?_); refine st_ (fun ws hs_ => ?_); replace E := Env.pt2 hs_ E; clear hs_; have q := E.cls; (repeat obtain ⟨_, _, q⟩ := q); clear q) | (go_at_call 79; refine env_call E (cutp_calls _ s) ?_; clear E; rintro e wc E rfl; rw [HC.out]; have q := E.cls; (repeat obtain ⟨_, _, q⟩ := q); clear q) | (go_at_call 80; refine env_call E (cut_of _ (HF.out _) HRS.out) ?_; clear E; rintro e wc E rfl; rw [F46.out]; dsimp only; have q := E.cls; (repeat obtain ⟨_, _, q⟩ := q); clear q) | (go_at_call 81; refine env_call E (rep_of (k := y.size) HZ.out HK.out) ?_; clear E; rintro e wc E rfl; have q := E.cls; (repeat obtain ⟨_, _, q⟩ := q); clear q) | (go_at_call 82; refine env_call E (dgs_of HX.out) ?_; clear E; rintro e wc E rfl; have q := E.cls; (repeat obtain ⟨_, _, q⟩ := q); clear q) | (go_at_call 82; refine env_call E (dgs_of HY.out) ?_; clear E; rintro e wc E rfl; have q := E.cls; (repeat obtain ⟨_, _, q⟩ := q); clear q) | (go_at_call 83; refine env_call E (plain_of PX.out.1 PX.out.2.1 PX.out.2.2) ?_; clear E; rintro e wc E ⟨br, Ar, nr, cr, rfl, hw_⟩; replace E := E.wh hw_; clear hw_; have q := E.cls; (repeat obtain ⟨_, _, q⟩ := q); clear q) | (go_at_call 83; refine env_call E (plain_of PXY.out.1 PXY.out.2.1 PXY.out.2.2) ?_; clear E; rintro e wc E ⟨br, Ar, nr, cr, rfl, hw_⟩; replace E := E.wh hw_; clear hw_; have q := E.cls; (repeat obtain ⟨_, _, q⟩ := q); clear q) | (go_at_call 83; refine env_call E (plain_of PZ.out.1 PZ.out.2.1 PZ.out.2.2) ?_; clear E; rintro e wc E ⟨br, Ar, nr, cr, rfl, hw_⟩; replace E := E.wh hw_; clear hw_; have q := E.cls; (repeat obtain ⟨_, _, q⟩ := q); clear q) | (go_at_call 84; refine env_call E (sign_calls E.getW) ?_; clear E; rintro e wc E rfl; have q := E.cls; (repeat obtain ⟨_, _, q⟩ := q); clear q) | (go_at_call 85; refine env_call E (cont_of CN.out) ?_; clear E; rintro e wc E rfl; have q := E.cls; (repeat obtain ⟨_, _, q⟩ := q); clear q) | (go_at_call 88; refine env_call E (over_calls (m := nn) (d := dd) E.getW E.getW D0.out (LNN.out.fits (by omega)) (LD.out.fits (by omega))) ?_; clear E; rintro e wc E ⟨br, Ar, nr, cr, br2, Ar2, nr2, cr2, rfl, hw_, hw2_⟩; replace E := (E.wh hw_).wh hw2_; clear hw_ hw2_; have q := E.cls; (repeat obtain ⟨_, _, q⟩ := q); clear q) | (go_at_call 87; refine env_call E (result_calls (q := Rat.divInt (nn) dd) E.getW E.getW rfl (dn_den _) ((lnq_div LNN.out LD.out (by omega)).1.mono (by omega)) ((lnq_div LNN.out LD.out (by omega)).2.mono (by omega))) ?_; clear E; rintro e wc E rfl; have q := E.cls; (repeat obtain ⟨_, _, q⟩ := q); clear q))
     refine bodyPost_ret (results_list (rs := [.tmp _, .tmp _]) rfl (by simp) (.tmp (.tmp .nil))) rfl ?_
     exact ⟨E.below, rfl⟩
 |false =>
  obtain ⟨h, t, fs, h47⟩ : ∃ x y f, F 47 = (x, y, f) := ⟨_, _, _, rfl⟩
  have hsl : CutAt r 47 h t fs := by have := hF 47; rw [h47] at this; exact this
  have F47 := Aside0.mk h47
  clear h47 hF
  have hht := hsl.size
  have CN := Aside0.mk (show decide ((46 : Int) ∈ bytesOf r) = false from decide_eq_false (hd.no rfl).2.2)
  cases fs with
  |true =>
   rw [parL_slash hd hsl]
   cases hx : dgs h with
   |false =>
    have HX := Aside0.mk hx
    rw [if_neg (fun h => by cases h.1)]
    clear hx hd hsl hht
    show Calls Tryz.prog 13 #[Value.string s] W fun e w' => Below W.heap.size W w' ∧ e = .returned (.tuple #[.string ⟨#[]⟩, .int .i64 2])
    go_enter Tryz.func13, Tryz.ntmps13
    go_wp2_with (first | ((with_reducible first | refine gate_box (by rfl) ?_ | refine gate_alloc (by rfl) ?_); refine bx_ E ?_; clear E; intro gb wb E; have q := E.cls; (repeat obtain ⟨_, _, q⟩ := q); clear q) | ((with_reducible refine gate_stored (t := 77) (by rfl) ?_); refine st_ (fun ws hs_ => ?_); replace E := Env.pt2 hs_ E; clear hs_; have q := E.cls; (repeat obtain ⟨_, _, q⟩ := q); clear q) | (go_at_call 79; refine env_call E (cutp_calls _ s) ?_; clear E; rintro e wc E rfl; rw [HC.out]; have q := E.cls; (repeat obtain ⟨_, _, q⟩ := q); clear q) | (go_at_call 80; refine env_call E (cut_of _ (HF.out _) HRS.out) ?_; clear E; rintro e wc E rfl; (first | rw [F46.out] | rw [F47.out]); dsimp only; have q := E.cls; (repeat obtain ⟨_, _, q⟩ := q); clear q) | (go_at_call 82; refine env_call E (dgs_of HX.out) ?_; clear E; rintro e wc E rfl; have q := E.cls; (repeat obtain ⟨_, _, q⟩ := q); clear q))
    refine bodyPost_ret (results_list (rs := [.tmp _, .tmp _]) rfl (by simp) (.tmp (.tmp .nil))) rfl ?_
    exact ⟨E.below, rfl⟩
   |true =>
    cases hy : dgs t with
    |false =>
     have HX := Aside0.mk hx
     have HY := Aside0.mk hy
     rw [if_neg (fun h => by cases h.2)]
     clear hx hy hd hsl hht
     show Calls Tryz.prog 13 #[Value.string s] W fun e w' => Below W.heap.size W w' ∧ e = .returned (.tuple #[.string ⟨#[]⟩, .int .i64 2])
     go_enter Tryz.func13, Tryz.ntmps13
     go_wp2_with (first | ((with_reducible first | refine gate_box (by rfl) ?_ | refine gate_alloc (by rfl) ?_); refine bx_ E ?_; clear E; intro gb wb E; have q := E.cls; (repeat obtain ⟨_, _, q⟩ := q); clear q) | ((with_reducible refine gate_stored (t := 77) (by rfl) ?_); refine st_ (fun ws hs_ => ?_); replace E := Env.pt2 hs_ E; clear hs_; have q := E.cls; (repeat obtain ⟨_, _, q⟩ := q); clear q) | (go_at_call 79; refine env_call E (cutp_calls _ s) ?_; clear E; rintro e wc E rfl; rw [HC.out]; have q := E.cls; (repeat obtain ⟨_, _, q⟩ := q); clear q) | (go_at_call 80; refine env_call E (cut_of _ (HF.out _) HRS.out) ?_; clear E; rintro e wc E rfl; (first | rw [F46.out] | rw [F47.out]); dsimp only; have q := E.cls; (repeat obtain ⟨_, _, q⟩ := q); clear q) | (go_at_call 82; refine env_call E (dgs_of HX.out) ?_; clear E; rintro e wc E rfl; have q := E.cls; (repeat obtain ⟨_, _, q⟩ := q); clear q) | (go_at_call 82; refine env_call E (dgs_of HY.out) ?_; clear E; rintro e wc E rfl; have q := E.cls; (repeat obtain ⟨_, _, q⟩ := q); clear q))
     refine bodyPost_ret (results_list (rs := [.tmp _, .tmp _]) rfl (by simp) (.tmp (.tmp .nil))) rfl ?_
     exact ⟨E.below, rfl⟩
    |true =>
     have HX := Aside0.mk hx
     have HY := Aside0.mk hy
     rw [if_pos ⟨rfl, rfl⟩]
     obtain ⟨nn, hn⟩ : ∃ n, tv (bytesOf h) = n := ⟨_, rfl⟩
     obtain ⟨dd, hdd⟩ : ∃ d : Int, tv (bytesOf t) = d := ⟨_, rfl⟩
     have PX := Aside0.mk (show (bytesOf h).all isd = true ∧ tv (bytesOf h) = nn ∧ h.size ≤ 9000000000000 from ⟨dgs_all hx, hn, by have := HR4.out; omega⟩)
     have PT := Aside0.mk (show (bytesOf t).all isd = true ∧ tv (bytesOf t) = dd ∧ t.size ≤ 9000000000000 from ⟨dgs_all hy, hdd, by have := HR4.out; omega⟩)
     have LN := Aside0.mk (show Ln nn 1000 by rw [← hn]; exact tv_ln (dgs_all hx) (by rw [bytesOf_size]; have := HR4.out; omega))
     have LD := Aside0.mk (show Ln dd 1000 by rw [← hdd]; exact tv_ln (dgs_all hy) (by rw [bytesOf_size]; have := HR4.out; omega))
     rw [hn, hdd]
     by_cases hd0 : dd = 0
     ·have hs0 : (sgnI dd == 0) = true := by rw [hd0]; rfl
      rw [if_pos hd0]
      clear hx hy hd hsl hht hn hdd hd0
      show Calls Tryz.prog 13 #[Value.string s] W fun e w' => Below W.heap.size W w' ∧ e = .returned (.tuple #[.string ⟨#[]⟩, .int .i64 9])
      go_enter Tryz.func13, Tryz.ntmps13
      go_wp2_with (first | ((with_reducible first | refine gate_box (by rfl) ?_ | refine gate_alloc (by rfl) ?_); refine bx_ E ?_; clear E; intro gb wb E; have q := E.cls; (repeat obtain ⟨_, _, q⟩ := q); clear q) | ((with_reducible refine gate_stored (t := 77) (by rfl) ?_); refine st_ (fun ws hs_ => ?_); replace E := Env.pt2 hs_ E; clear hs_; have q := E.cls; (repeat obtain ⟨_, _, q⟩ := q); clear q) | (go_at_call 79; refine env_call E (cutp_calls _ s) ?_; clear E; rintro e wc E rfl; rw [HC.out]; have q := E.cls; (repeat obtain ⟨_, _, q⟩ := q); clear q) | (go_at_call 80; refine env_call E (cut_of _ (HF.out _) HRS.out) ?_; clear E; rintro e wc E rfl; (first | rw [F46.out] | rw [F47.out]); dsimp only; have q := E.cls; (repeat obtain ⟨_, _, q⟩ := q); clear q) | (go_at_call 82; refine env_call E (dgs_of HX.out) ?_; clear E; rintro e wc E rfl; have q := E.cls; (repeat obtain ⟨_, _, q⟩ := q); clear q) | (go_at_call 82; refine env_call E (dgs_of HY.out) ?_; clear E; rintro e wc E rfl; have q := E.cls; (repeat obtain ⟨_, _, q⟩ := q); clear q) | (go_at_call 83; refine env_call E (plain_of PX.out.1 PX.out.2.1 PX.out.2.2) ?_; clear E; rintro e wc E ⟨br, Ar, nr, cr, rfl, hw_⟩; replace E := E.wh hw_; clear hw_; have q := E.cls; (repeat obtain ⟨_, _, q⟩ := q); clear q) | (go_at_call 83; refine env_call E (plain_of PT.out.1 PT.out.2.1 PT.out.2.2) ?_; clear E; rintro e wc E ⟨br, Ar, nr, cr, rfl, hw_⟩; replace E := E.wh hw_; clear hw_; have q := E.cls; (repeat obtain ⟨_, _, q⟩ := q); clear q) | (go_at_call 84; refine env_call E (sign_calls E.getW) ?_; clear E; rintro e wc E rfl; have q := E.cls; (repeat obtain ⟨_, _, q⟩ := q); clear q))
      refine bodyPost_ret (results_list (rs := [.tmp _, .tmp _]) rfl (by simp) (.tmp (.tmp .nil))) rfl ?_
      exact ⟨E.below, rfl⟩
     ·have hs0 : (sgnI dd == 0) = false := beq_eq_false_iff_ne.mpr (fun h => hd0 ((sgnI_zero _).1 h))
      have D0 := Aside0.mk hd0
      rw [if_neg hd0]
      clear hx hy hd hsl hht hn hdd hd0
      cases hlt : decide ((1 : Int) < (t.size : Int)) with
      |true =>
       cases mi with
       |true =>
        have LNN := Aside0.mk (show Ln (-nn) 1000 from LN.out.neg)
        show Calls Tryz.prog 13 #[Value.string s] W fun e w' => Below W.heap.size W w' ∧ e = .returned (.tuple #[.string (res (Rat.divInt (-nn) dd)).1, .int .i64 (res (Rat.divInt (-nn) dd)).2])
        go_enter Tryz.func13, Tryz.ntmps13
        go_wp2_with (first | ((with_reducible first | refine gate_box (by rfl) ?_ | refine gate_alloc (by rfl) ?_); refine bx_ E ?_; clear E; intro gb wb E; have q := E.cls; (repeat obtain ⟨_, _, q⟩ := q); clear q) | ((with_reducible refine gate_stored (t := 77) (by rfl) ?_); refine st_ (fun ws hs_ => ?_); replace E := Env.pt2 hs_ E; clear hs_; have q := E.cls; (repeat obtain ⟨_, _, q⟩ := q); clear q) | (go_at_call 79; refine env_call E (cutp_calls _ s) ?_; clear E; rintro e wc E rfl; rw [HC.out]; have q := E.cls; (repeat obtain ⟨_, _, q⟩ := q); clear q) | (go_at_call 80; refine env_call E (cut_of _ (HF.out _) HRS.out) ?_; clear E; rintro e wc E rfl; (first | rw [F46.out] | rw [F47.out]); dsimp only; have q := E.cls; (repeat obtain ⟨_, _, q⟩ := q); clear q) | (go_at_call 82; refine env_call E (dgs_of HX.out) ?_; clear E; rintro e wc E rfl; have q := E.cls; (repeat obtain ⟨_, _, q⟩ := q); clear q) | (go_at_call 82; refine env_call E (dgs_of HY.out) ?_; clear E; rintro e wc E rfl; have q := E.cls; (repeat obtain ⟨_, _, q⟩ := q); clear q) | (go_at_call 83; refine env_call E (plain_of PX.out.1 PX.out.2.1 PX.out.2.2) ?_; clear E; rintro e wc E ⟨br, Ar, nr, cr, rfl, hw_⟩; replace E := E.wh hw_; clear hw_; have q := E.cls; (repeat obtain ⟨_, _, q⟩ := q); clear q) | (go_at_call 83; refine env_call E (plain_of PT.out.1 PT.out.2.1 PT.out.2.2) ?_; clear E; rintro e wc E ⟨br, Ar, nr, cr, rfl, hw_⟩; replace E := E.wh hw_; clear hw_; have q := E.cls; (repeat obtain ⟨_, _, q⟩ := q); clear q) | (go_at_call 84; refine env_call E (sign_calls E.getW) ?_; clear E; rintro e wc E rfl; have q := E.cls; (repeat obtain ⟨_, _, q⟩ := q); clear q) | (go_at_call 85; refine env_call E (cont_of CN.out) ?_; clear E; rintro e wc E rfl; have q := E.cls; (repeat obtain ⟨_, _, q⟩ := q); clear q) | (go_at_call 86; refine env_call E (neg_calls E.getW) ?_; clear E; rintro e wc E ⟨br, Ar, nr, cr, rfl, hw_⟩; replace E := E.wh hw_; clear hw_; have q := E.cls; (repeat obtain ⟨_, _, q⟩ := q); clear q) | (go_at_call 88; refine env_call E (over_calls (m := -nn) (d := dd) E.getW E.getW D0.out (LNN.out.fits (by omega)) (LD.out.fits (by omega))) ?_; clear E; rintro e wc E ⟨br, Ar, nr, cr, br2, Ar2, nr2, cr2, rfl, hw_, hw2_⟩; replace E := (E.wh hw_).wh hw2_; clear hw_ hw2_; have q := E.cls; (repeat obtain ⟨_, _, q⟩ := q); clear q) | (go_at_call 87; refine env_call E (result_calls (q := Rat.divInt (-nn) dd) E.getW E.getW rfl (dn_den _) ((lnq_div LNN.out LD.out (by omega)).1.mono (by omega)) ((lnq_div LNN.out LD.out (by omega)).2.mono (by omega))) ?_; clear E; rintro e wc E rfl; have q := E.cls; (repeat obtain ⟨_, _, q⟩ := q); clear q))
        refine bodyPost_ret (results_list (rs := [.tmp _, .tmp _]) rfl (by simp) (.tmp (.tmp .nil))) rfl ?_
        exact ⟨E.below, rfl⟩
       |false =>
        have LNN := Aside0.mk (show Ln (nn) 1000 from LN.out)
        show Calls Tryz.prog 13 #[Value.string s] W fun e w' => Below W.heap.size W w' ∧ e = .returned (.tuple #[.string (res (Rat.divInt (nn) dd)).1, .int .i64 (res (Rat.divInt (nn) dd)).2])
        go_enter Tryz.func13, Tryz.ntmps13
        go_wp2_with (first | ((with_reducible first | refine gate_box (by rfl) ?_ | refine gate_alloc (by rfl) ?_); refine bx_ E ?_; clear E; intro gb wb E; have q := E.cls; (repeat obtain ⟨_, _, q⟩ := q); clear q) | ((with_reducible refine gate_stored (t := 77) (by rfl) ?_); refine st_ (fun ws hs_ => ?_); replace E := Env.pt2 hs_ E; clear hs_; have q := E.cls; (repeat obtain ⟨_, _, q⟩ := q); clear q) | (go_at_call 79; refine env_call E (cutp_calls _ s) ?_; clear E; rintro e wc E rfl; rw [HC.out]; have q := E.cls; (repeat obtain ⟨_, _, q⟩ := q); clear q) | (go_at_call 80; refine env_call E (cut_of _ (HF.out _) HRS.out) ?_; clear E; rintro e wc E rfl; (first | rw [F46.out] | rw [F47.out]); dsimp only; have q := E.cls; (repeat obtain ⟨_, _, q⟩ := q); clear q) | (go_at_call 82; refine env_call E (dgs_of HX.out) ?_; clear E; rintro e wc E rfl; have q := E.cls; (repeat obtain ⟨_, _, q⟩ := q); clear q) | (go_at_call 82; refine env_call E (dgs_of HY.out) ?_; clear E; rintro e wc E rfl; have q := E.cls; (repeat obtain ⟨_, _, q⟩ := q); clear q) | (go_at_call 83; refine env_call E (plain_of PX.out.1 PX.out.2.1 PX.out.2.2) ?_; clear E; rintro e wc E ⟨br, Ar, nr, cr, rfl, hw_⟩; replace E := E.wh hw_; clear hw_; have q := E.cls; (repeat obtain ⟨_, _, q⟩ := q); clear q) | (go_at_call 83; refine env_call E (plain_of PT.out.1 PT.out.2.1 PT.out.2.2) ?_; clear E; rintro e wc E ⟨br, Ar, nr, cr, rfl, hw_⟩; replace E := E.wh hw_; clear hw_; have q := E.cls; (repeat obtain ⟨_, _, q⟩ := q); clear q) | (go_at_call 84; refine env_call E (sign_calls E.getW) ?_; clear E; rintro e wc E rfl; have q := E.cls; (repeat obtain ⟨_, _, q⟩ := q); clear q) | (go_at_call 85; refine env_call E (cont_of CN.out) ?_; clear E; rintro e wc E rfl; have q := E.cls; (repeat obtain ⟨_, _, q⟩ := q); clear q) | (go_at_call 88; refine env_call E (over_calls (m := nn) (d := dd) E.getW E.getW D0.out (LNN.out.fits (by omega)) (LD.out.fits (by omega))) ?_; clear E; rintro e wc E ⟨br, Ar, nr, cr, br2, Ar2, nr2, cr2, rfl, hw_, hw2_⟩; replace E := (E.wh hw_).wh hw2_; clear hw_ hw2_; have q := E.cls; (repeat obtain ⟨_, _, q⟩ := q); clear q) | (go_at_call 87; refine env_call E (result_calls (q := Rat.divInt (nn) dd) E.getW E.getW rfl (dn_den _) ((lnq_div LNN.out LD.out (by omega)).1.mono (by omega)) ((lnq_div LNN.out LD.out (by omega)).2.mono (by omega))) ?_; clear E; rintro e wc E rfl; have q := E.cls; (repeat obtain ⟨_, _, q⟩ := q); clear q))
        refine bodyPost_ret (results_list (rs := [.tmp _, .tmp _]) rfl (by simp) (.tmp (.tmp .nil))) rfl ?_
        exact ⟨E.below, rfl⟩
      |false =>
       cases mi with
       |true =>
        have LNN := Aside0.mk (show Ln (-nn) 1000 from LN.out.neg)
        show Calls Tryz.prog 13 #[Value.string s] W fun e w' => Below W.heap.size W w' ∧ e = .returned (.tuple #[.string (res (Rat.divInt (-nn) dd)).1, .int .i64 (res (Rat.divInt (-nn) dd)).2])
        go_enter Tryz.func13, Tryz.ntmps13
        go_wp2_with (first | ((with_reducible first | refine gate_box (by rfl) ?_ | refine gate_alloc (by rfl) ?_); refine bx_ E ?_; clear E; intro gb wb E; have q := E.cls; (repeat obtain ⟨_, _, q⟩ := q); clear q) | ((with_reducible refine gate_stored (t := 77) (by rfl) ?_); refine st_ (fun ws hs_ => ?_); replace E := Env.pt2 hs_ E; clear hs_; have q := E.cls; (repeat obtain ⟨_, _, q⟩ := q); clear q) | (go_at_call 79; refine env_call E (cutp_calls _ s) ?_; clear E; rintro e wc E rfl; rw [HC.out]; have q := E.cls; (repeat obtain ⟨_, _, q⟩ := q); clear q) | (go_at_call 80; refine env_call E (cut_of _ (HF.out _) HRS.out) ?_; clear E; rintro e wc E rfl; (first | rw [F46.out] | rw [F47.out]); dsimp only; have q := E.cls; (repeat obtain ⟨_, _, q⟩ := q); clear q) | (go_at_call 82; refine env_call E (dgs_of HX.out) ?_; clear E; rintro e wc E rfl; have q := E.cls; (repeat obtain ⟨_, _, q⟩ := q); clear q) | (go_at_call 82; refine env_call E (dgs_of HY.out) ?_; clear E; rintro e wc E rfl; have q := E.cls; (repeat obtain ⟨_, _, q⟩ := q); clear q) | (go_at_call 83; refine env_call E (plain_of PX.out.1 PX.out.2.1 PX.out.2.2) ?_; clear E; rintro e wc E ⟨br, Ar, nr, cr, rfl, hw_⟩; replace E := E.wh hw_; clear hw_; have q := E.cls; (repeat obtain ⟨_, _, q⟩ := q); clear q) | (go_at_call 83; refine env_call E (plain_of PT.out.1 PT.out.2.1 PT.out.2.2) ?_; clear E; rintro e wc E ⟨br, Ar, nr, cr, rfl, hw_⟩; replace E := E.wh hw_; clear hw_; have q := E.cls; (repeat obtain ⟨_, _, q⟩ := q); clear q) | (go_at_call 84; refine env_call E (sign_calls E.getW) ?_; clear E; rintro e wc E rfl; have q := E.cls; (repeat obtain ⟨_, _, q⟩ := q); clear q) | (go_at_call 85; refine env_call E (cont_of CN.out) ?_; clear E; rintro e wc E rfl; have q := E.cls; (repeat obtain ⟨_, _, q⟩ := q); clear q) | (go_at_call 86; refine env_call E (neg_calls E.getW) ?_; clear E; rintro e wc E ⟨br, Ar, nr, cr, rfl, hw_⟩; replace E := E.wh hw_; clear hw_; have q := E.cls; (repeat obtain ⟨_, _, q⟩ := q); clear q) | (go_at_call 88; refine env_call E (over_calls (m := -nn) (d := dd) E.getW E.getW D0.out (LNN.out.fits (by omega)) (LD.out.fits (by omega))) ?_; clear E; rintro e wc E ⟨br, Ar, nr, cr, br2, Ar2, nr2, cr2, rfl, hw_, hw2_⟩; replace E := (E.wh hw_).wh hw2_; clear hw_ hw2_; have q := E.cls; (repeat obtain ⟨_, _, q⟩ := q); clear q) | (go_at_call 87; refine env_call E (result_calls (q := Rat.divInt (-nn) dd) E.getW E.getW rfl (dn_den _) ((lnq_div LNN.out LD.out (by omega)).1.mono (by omega)) ((lnq_div LNN.out LD.out (by omega)).2.mono (by omega))) ?_; clear E; rintro e wc E rfl; have q := E.cls; (repeat obtain ⟨_, _, q⟩ := q); clear q))
        refine bodyPost_ret (results_list (rs := [.tmp _, .tmp _]) rfl (by simp) (.tmp (.tmp .nil))) rfl ?_
        exact ⟨E.below, rfl⟩
       |false =>
        have LNN := Aside0.mk (show Ln (nn) 1000 from LN.out)
        show Calls Tryz.prog 13 #[Value.string s] W fun e w' => Below W.heap.size W w' ∧ e = .returned (.tuple #[.string (res (Rat.divInt (nn) dd)).1, .int .i64 (res (Rat.divInt (nn) dd)).2])
        go_enter Tryz.func13, Tryz.ntmps13
        go_wp2_with (first | ((with_reducible first | refine gate_box (by rfl) ?_ | refine gate_alloc (by rfl) ?_); refine bx_ E ?_; clear E; intro gb wb E; have q := E.cls; (repeat obtain ⟨_, _, q⟩ := q); clear q) | ((with_reducible refine gate_stored (t := 77) (by rfl) ?_); refine st_ (fun ws hs_ => ?_); replace E := Env.pt2 hs_ E; clear hs_; have q := E.cls; (repeat obtain ⟨_, _, q⟩ := q); clear q) | (go_at_call 79; refine env_call E (cutp_calls _ s) ?_; clear E; rintro e wc E rfl; rw [HC.out]; have q := E.cls; (repeat obtain ⟨_, _, q⟩ := q); clear q) | (go_at_call 80; refine env_call E (cut_of _ (HF.out _) HRS.out) ?_; clear E; rintro e wc E rfl; (first | rw [F46.out] | rw [F47.out]); dsimp only; have q := E.cls; (repeat obtain ⟨_, _, q⟩ := q); clear q) | (go_at_call 82; refine env_call E (dgs_of HX.out) ?_; clear E; rintro e wc E rfl; have q := E.cls; (repeat obtain ⟨_, _, q⟩ := q); clear q) | (go_at_call 82; refine env_call E (dgs_of HY.out) ?_; clear E; rintro e wc E rfl; have q := E.cls; (repeat obtain ⟨_, _, q⟩ := q); clear q) | (go_at_call 83; refine env_call E (plain_of PX.out.1 PX.out.2.1 PX.out.2.2) ?_; clear E; rintro e wc E ⟨br, Ar, nr, cr, rfl, hw_⟩; replace E := E.wh hw_; clear hw_; have q := E.cls; (repeat obtain ⟨_, _, q⟩ := q); clear q) | (go_at_call 83; refine env_call E (plain_of PT.out.1 PT.out.2.1 PT.out.2.2) ?_; clear E; rintro e wc E ⟨br, Ar, nr, cr, rfl, hw_⟩; replace E := E.wh hw_; clear hw_; have q := E.cls; (repeat obtain ⟨_, _, q⟩ := q); clear q) | (go_at_call 84; refine env_call E (sign_calls E.getW) ?_; clear E; rintro e wc E rfl; have q := E.cls; (repeat obtain ⟨_, _, q⟩ := q); clear q) | (go_at_call 85; refine env_call E (cont_of CN.out) ?_; clear E; rintro e wc E rfl; have q := E.cls; (repeat obtain ⟨_, _, q⟩ := q); clear q) | (go_at_call 88; refine env_call E (over_calls (m := nn) (d := dd) E.getW E.getW D0.out (LNN.out.fits (by omega)) (LD.out.fits (by omega))) ?_; clear E; rintro e wc E ⟨br, Ar, nr, cr, br2, Ar2, nr2, cr2, rfl, hw_, hw2_⟩; replace E := (E.wh hw_).wh hw2_; clear hw_ hw2_; have q := E.cls; (repeat obtain ⟨_, _, q⟩ := q); clear q) | (go_at_call 87; refine env_call E (result_calls (q := Rat.divInt (nn) dd) E.getW E.getW rfl (dn_den _) ((lnq_div LNN.out LD.out (by omega)).1.mono (by omega)) ((lnq_div LNN.out LD.out (by omega)).2.mono (by omega))) ?_; clear E; rintro e wc E rfl; have q := E.cls; (repeat obtain ⟨_, _, q⟩ := q); clear q))
        refine bodyPost_ret (results_list (rs := [.tmp _, .tmp _]) rfl (by simp) (.tmp (.tmp .nil))) rfl ?_
        exact ⟨E.below, rfl⟩
  |false =>
   rw [parL_int hd hsl]
   obtain ⟨rfl, rfl, -⟩ := hsl.no rfl
   cases hx : dgs h with
   |false =>
    have HX := Aside0.mk hx
    rw [if_neg (by decide)]
    clear hx hd hsl hht
    show Calls Tryz.prog 13 #[Value.string s] W fun e w' => Below W.heap.size W w' ∧ e = .returned (.tuple #[.string ⟨#[]⟩, .int .i64 2])
    go_enter Tryz.func13, Tryz.ntmps13
    go_wp2_with (first | ((with_reducible first | refine gate_box (by rfl) ?_ | refine gate_alloc (by rfl) ?_); refine bx_ E ?_; clear E; intro gb wb E; have q := E.cls; (repeat obtain ⟨_, _, q⟩ := q); clear q) | ((with_reducible refine gate_stored (t := 77) (by rfl) ?_); refine st_ (fun ws hs_ => ?_); replace E := Env.pt2 hs_ E; clear hs_; have q := E.cls; (repeat obtain ⟨_, _, q⟩ := q); clear q) | (go_at_call 79; refine env_call E (cutp_calls _ s) ?_; clear E; rintro e wc E rfl; rw [HC.out]; have q := E.cls; (repeat obtain ⟨_, _, q⟩ := q); clear q) | (go_at_call 80; refine env_call E (cut_of _ (HF.out _) HRS.out) ?_; clear E; rintro e wc E rfl; (first | rw [F46.out] | rw [F47.out]); dsimp only; have q := E.cls; (repeat obtain ⟨_, _, q⟩ := q); clear q) | (go_at_call 82; refine env_call E (dgs_of HX.out) ?_; clear E; rintro e wc E rfl; have q := E.cls; (repeat obtain ⟨_, _, q⟩ := q); clear q))
    refine bodyPost_ret (results_list (rs := [.tmp _, .tmp _]) rfl (by simp) (.tmp (.tmp .nil))) rfl ?_
    exact ⟨E.below, rfl⟩
   |true =>
    have HX := Aside0.mk hx
    rw [if_pos rfl]
    obtain ⟨nn, hn⟩ : ∃ n, tv (bytesOf h) = n := ⟨_, rfl⟩
    obtain ⟨dd, hdd⟩ : ∃ d : Int, 1 = d := ⟨_, rfl⟩
    have PX := Aside0.mk (show (bytesOf h).all isd = true ∧ tv (bytesOf h) = nn ∧ h.size ≤ 9000000000000 from ⟨dgs_all hx, hn, by have := HR4.out; omega⟩)
    have PT := Aside0.mk (show (bytesOf (⟨#[49]⟩ : ByteArray)).all isd = true ∧ tv (bytesOf (⟨#[49]⟩ : ByteArray)) = dd ∧ (⟨#[49]⟩ : ByteArray).size ≤ 9000000000000 from ⟨by decide, by rw [← hdd]; decide, by decide⟩)
    have LN := Aside0.mk (show Ln nn 1000 by rw [← hn]; exact tv_ln (dgs_all hx) (by rw [bytesOf_size]; have := HR4.out; omega))
    have LD := Aside0.mk (show Ln dd 1000 by rw [← hdd]; exact ln_one.mono (by omega))
    have D0 := Aside0.mk (show dd ≠ 0 by omega)
    have hs0 : (sgnI dd == 0) = false := beq_eq_false_iff_ne.mpr (fun h => D0.out ((sgnI_zero _).1 h))
    rw [hn, hdd]
    clear hx hd hsl hht hn hdd
    cases mi with
    |true =>
     have LNN := Aside0.mk (show Ln (-nn) 1000 from LN.out.neg)
     show Calls Tryz.prog 13 #[Value.string s] W fun e w' => Below W.heap.size W w' ∧ e = .returned (.tuple #[.string (res (Rat.divInt (-nn) dd)).1, .int .i64 (res (Rat.divInt (-nn) dd)).2])
     go_enter Tryz.func13, Tryz.ntmps13
     go_wp2_with (first | ((with_reducible first | refine gate_box (by rfl) ?_ | refine gate_alloc (by rfl) ?_); refine bx_ E ?_; clear E; intro gb wb E; have q := E.cls; (repeat obtain ⟨_, _, q⟩ := q); clear q) | ((with_reducible refine gate_stored (t := 77) (by rfl) ?_); refine st_ (fun ws hs_ => ?_); replace E := Env.pt2 hs_ E; clear hs_; have q := E.cls; (repeat obtain ⟨_, _, q⟩ := q); clear q) | (go_at_call 79; refine env_call E (cutp_calls _ s) ?_; clear E; rintro e wc E rfl; rw [HC.out]; have q := E.cls; (repeat obtain ⟨_, _, q⟩ := q); clear q) | (go_at_call 80; refine env_call E (cut_of _ (HF.out _) HRS.out) ?_; clear E; rintro e wc E rfl; (first | rw [F46.out] | rw [F47.out]); dsimp only; have q := E.cls; (repeat obtain ⟨_, _, q⟩ := q); clear q) | (go_at_call 82; refine env_call E (dgs_of HX.out) ?_; clear E; rintro e wc E rfl; have q := E.cls; (repeat obtain ⟨_, _, q⟩ := q); clear q) | (go_at_call 83; refine env_call E (plain_of PX.out.1 PX.out.2.1 PX.out.2.2) ?_; clear E; rintro e wc E ⟨br, Ar, nr, cr, rfl, hw_⟩; replace E := E.wh hw_; clear hw_; have q := E.cls; (repeat obtain ⟨_, _, q⟩ := q); clear q) | (go_at_call 83; refine env_call E (plain_of PT.out.1 PT.out.2.1 PT.out.2.2) ?_; clear E; rintro e wc E ⟨br, Ar, nr, cr, rfl, hw_⟩; replace E := E.wh hw_; clear hw_; have q := E.cls; (repeat obtain ⟨_, _, q⟩ := q); clear q) | (go_at_call 84; refine env_call E (sign_calls E.getW) ?_; clear E; rintro e wc E rfl; have q := E.cls; (repeat obtain ⟨_, _, q⟩ := q); clear q) | (go_at_call 86; refine env_call E (neg_calls E.getW) ?_; clear E; rintro e wc E ⟨br, Ar, nr, cr, rfl, hw_⟩; replace E := E.wh hw_; clear hw_; have q := E.cls; (repeat obtain ⟨_, _, q⟩ := q); clear q) | (go_at_call 88; refine env_call E (over_calls (m := -nn) (d := dd) E.getW E.getW D0.out (LNN.out.fits (by omega)) (LD.out.fits (by omega))) ?_; clear E; rintro e wc E ⟨br, Ar, nr, cr, br2, Ar2, nr2, cr2, rfl, hw_, hw2_⟩; replace E := (E.wh hw_).wh hw2_; clear hw_ hw2_; have q := E.cls; (repeat obtain ⟨_, _, q⟩ := q); clear q) | (go_at_call 87; refine env_call E (result_calls (q := Rat.divInt (-nn) dd) E.getW E.getW rfl (dn_den _) ((lnq_div LNN.out LD.out (by omega)).1.mono (by omega)) ((lnq_div LNN.out LD.out (by omega)).2.mono (by omega))) ?_; clear E; rintro e wc E rfl; have q := E.cls; (repeat obtain ⟨_, _, q⟩ := q); clear q))
     refine bodyPost_ret (results_list (rs := [.tmp _, .tmp _]) rfl (by simp) (.tmp (.tmp .nil))) rfl ?_
     exact ⟨E.below, rfl⟩
    |false =>
     have LNN := Aside0.mk (show Ln (nn) 1000 from LN.out)
     show Calls Tryz.prog 13 #[Value.string s] W fun e w' => Below W.heap.size W w' ∧ e = .returned (.tuple #[.string (res (Rat.divInt (nn) dd)).1, .int .i64 (res (Rat.divInt (nn) dd)).2])
     go_enter Tryz.func13, Tryz.ntmps13
     go_wp2_with (first | ((with_reducible first | refine gate_box (by rfl) ?_ | refine gate_alloc (by rfl) ?_); refine bx_ E ?_; clear E; intro gb wb E; have q := E.cls; (repeat obtain ⟨_, _, q⟩ := q); clear q) | ((with_reducible refine gate_stored (t := 77) (by rfl) ?_); refine st_ (fun ws hs_ => ?_); replace E := Env.pt2 hs_ E; clear hs_; have q := E.cls; (repeat obtain ⟨_, _, q⟩ := q); clear q) | (go_at_call 79; refine env_call E (cutp_calls _ s) ?_; clear E; rintro e wc E rfl; rw [HC.out]; have q := E.cls; (repeat obtain ⟨_, _, q⟩ := q); clear q) | (go_at_call 80; refine env_call E (cut_of _ (HF.out _) HRS.out) ?_; clear E; rintro e wc E rfl; (first | rw [F46.out] | rw [F47.out]); dsimp only; have q := E.cls; (repeat obtain ⟨_, _, q⟩ := q); clear q) | (go_at_call 82; refine env_call E (dgs_of HX.out) ?_; clear E; rintro e wc E rfl; have q := E.cls; (repeat obtain ⟨_, _, q⟩ := q); clear q) | (go_at_call 83; refine env_call E (plain_of PX.out.1 PX.out.2.1 PX.out.2.2) ?_; clear E; rintro e wc E ⟨br, Ar, nr, cr, rfl, hw_⟩; replace E := E.wh hw_; clear hw_; have q := E.cls; (repeat obtain ⟨_, _, q⟩ := q); clear q) | (go_at_call 83; refine env_call E (plain_of PT.out.1 PT.out.2.1 PT.out.2.2) ?_; clear E; rintro e wc E ⟨br, Ar, nr, cr, rfl, hw_⟩; replace E := E.wh hw_; clear hw_; have q := E.cls; (repeat obtain ⟨_, _, q⟩ := q); clear q) | (go_at_call 84; refine env_call E (sign_calls E.getW) ?_; clear E; rintro e wc E rfl; have q := E.cls; (repeat obtain ⟨_, _, q⟩ := q); clear q) | (go_at_call 88; refine env_call E (over_calls (m := nn) (d := dd) E.getW E.getW D0.out (LNN.out.fits (by omega)) (LD.out.fits (by omega))) ?_; clear E; rintro e wc E ⟨br, Ar, nr, cr, br2, Ar2, nr2, cr2, rfl, hw_, hw2_⟩; replace E := (E.wh hw_).wh hw2_; clear hw_ hw2_; have q := E.cls; (repeat obtain ⟨_, _, q⟩ := q); clear q) | (go_at_call 87; refine env_call E (result_calls (q := Rat.divInt (nn) dd) E.getW E.getW rfl (dn_den _) ((lnq_div LNN.out LD.out (by omega)).1.mono (by omega)) ((lnq_div LNN.out LD.out (by omega)).2.mono (by omega))) ?_; clear E; rintro e wc E rfl; have q := E.cls; (repeat obtain ⟨_, _, q⟩ := q); clear q))
     refine bodyPost_ret (results_list (rs := [.tmp _, .tmp _]) rfl (by simp) (.tmp (.tmp .nil))) rfl ?_
     exact ⟨E.below, rfl⟩
end Go.Proofs.YtfmcgammhfdfnaaGreatDoor.PRatio
namespace Go.Proofs.YtfmcgammhfdfnaaGreatDoor.PRatio
open Go.RowKit Go.Proofs.YtfmcgammhfdfnaaGreatDoorW.PrintWords
set_option linter.unusedVariables false
set_option linter.unusedSimpArgs false
theorem rv_RT {q : Rat} (h : lgq q = false) : rv (RT q) = some q := by
 unfold rv
 rw [bytesOf_RT, rat?_rtx]
 simp [h]
theorem rv_of {s : ByteArray} {q : Rat} (h : rat? (bytesOf s) = some q) (hl : lgq q = false) : rv s = some q := by
 unfold rv
 rw [h]
 simp [hl]
def Lq (q : Rat) (k : Nat) : Prop := q.num.natAbs < 10 ^ k ∧ q.den < 10 ^ k
theorem Lq.mono {q : Rat} {a b : Nat} (h : Lq q a) (hab : a ≤ b) : Lq q b :=
 ⟨Nat.lt_of_lt_of_le h.1 (Nat.pow_le_pow_right (by decide) hab), Nat.lt_of_lt_of_le h.2 (Nat.pow_le_pow_right (by decide) hab)⟩
theorem Lq.lg {q : Rat} {k : Nat} (h : Lq q k) (hk : k ≤ 1000) : lgq q = false := by
 have h1 : Lg q.num = false := decide_eq_false (by have := (nd_le k _).2 h.1; omega)
 have h2 : Lg (q.den : Int) = false := decide_eq_false (by rw [Int.natAbs_natCast]; have := (nd_le k _).2 h.2; omega)
 unfold lgq
 rw [h1, h2]
 rfl
theorem lq_div {n d : Int} {k : Nat} (hn : n.natAbs < 10 ^ k) (hd : d.natAbs < 10 ^ k) (hk : 1 ≤ k) : Lq (Rat.divInt n d) k := by
 have h := divInt_le n d
 refine ⟨Nat.lt_of_le_of_lt h.1 hn, ?_⟩
 have h1 : 1 < 10 ^ k := Nat.one_lt_pow (by omega) (by decide)
 omega
theorem res_ok {q : Rat} (h : lgq q = false) : res q = (RT q, 0) := by
 unfold res resA resE
 simp [h]
end Go.Proofs.YtfmcgammhfdfnaaGreatDoor.PRatio
namespace Go.Proofs.YtfmcgammhfdfnaaGreatDoor.PRatio
open Go.RowKit Go.Proofs.YtfmcgammhfdfnaaGreatDoorW.PrintWords Go.Proofs.YtfmcgammhfdfnaaGreatDoorW.PrintLast Go.Proofs.YtfmcgammhfdfnaaGreatDoorW.PrintMore
set_option linter.unusedVariables false
set_option linter.unusedSimpArgs false
set_option maxHeartbeats 8000000
set_option maxRecDepth 100000
theorem is_calls (W : World) (x w : ByteArray) (e : Int) : Calls Tryz.prog 23 #[.string x, .int .i64 e, .string w] W fun en w' => Below W.heap.size W w' ∧ en = .returned (.bool (x.toList == w.toList && e == 0)) := by
 have E := Env.start W
 cases h : x.toList == w.toList with
 |false =>
  go_enter Tryz.func23, Tryz.ntmps23
  go_wp2
  go_ret
  exact ⟨E.below, rfl⟩
 |true =>
  go_enter Tryz.func23, Tryz.ntmps23
  go_wp2
  go_ret
  exact ⟨E.below, rfl⟩
theorem is_same (W : World) (x : ByteArray) : Calls Tryz.prog 23 #[.string x, .int .i64 0, .string x] W fun en w' => Below W.heap.size W w' ∧ en = .returned (.bool true) := by
 have := is_calls W x x 0
 rwa [beq_self_eq_true] at this
theorem lg_of {q : Rat} (h : q.num.natAbs < 10 ^ 9 ∧ q.den < 10 ^ 9) : lgq q = false := Lq.lg (k := 9) h (by decide)
theorem rt_of {s : ByteArray} {q : Rat} (h : rat? (bytesOf s) = some q) : RT q = s := (rat?_RT h).symm
theorem aw1 : two ⟨#[49, 47, 50]⟩ ⟨#[49, 47, 51]⟩ (fun x y => res (x + y)) = (⟨#[53, 47, 54]⟩, 0) := by
 unfold two
 rw [rv_of (q := 1 / 2) (by decide +kernel) (lg_of (by decide +kernel)), rv_of (q := 1 / 3) (by decide +kernel) (lg_of (by decide +kernel))]
 show res (1 / 2 + 1 / 3) = _
 rw [res_ok (lg_of (by decide +kernel)), rt_of (s := ⟨#[53, 47, 54]⟩) (by decide +kernel)]
theorem aw2 : simpS ⟨#[49, 47, 51]⟩ ⟨#[51, 47, 53]⟩ = (⟨#[49, 47, 50]⟩, 0) := by
 unfold simpS ends2 ev
 rw [if_neg (by decide), if_neg (by decide), rv_of (q := 1 / 3) (by decide +kernel) (lg_of (by decide +kernel)), rv_of (q := 3 / 5) (by decide +kernel) (lg_of (by decide +kernel))]
 show (if (3 / 5 : Rat) < 1 / 3 then ((⟨#[]⟩, 1) : ByteArray × Int) else if 0 < (1 / 3 : Rat).num then (RT (simQ (1 / 3) (some (3 / 5))), 0) else if (3 / 5 : Rat).num < 0 then (RT (-simQ (-(3 / 5)) (some (-(1 / 3)))), 0) else (⟨#[48]⟩, 0)) = _
 rw [if_neg (by decide +kernel), if_pos (by decide +kernel), rt_of (s := ⟨#[49, 47, 50]⟩) (by decide +kernel)]
theorem aw3 : parS ⟨#[45, 48, 48, 54, 47, 52]⟩ = (⟨#[45, 51, 47, 50]⟩, 0) := by
 unfold parS
 rw [if_neg (by decide)]
 have h1 : cutm ⟨#[45, 48, 48, 54, 47, 52]⟩ = (⟨#[48, 48, 54, 47, 52]⟩, true) := by decide +kernel
 have h2 : parL (bytesOf ⟨#[48, 48, 54, 47, 52]⟩) = .ok (6, 4) := rfl
 rw [h1, h2]
 show res (Rat.divInt (if true = true then -6 else 6) 4) = _
 rw [res_ok (lg_of (by decide +kernel)), rt_of (s := ⟨#[45, 51, 47, 50]⟩) (by decide +kernel)]
theorem aw4 : rv ⟨#[45, 49, 47, 50]⟩ = some (-1 / 2) := rv_of (by decide +kernel) (lg_of (by decide +kernel))
theorem aw4' : TX (-1 / 2 : Rat).floor = ⟨#[45, 49]⟩ := (int?_TX (by decide +kernel)).symm
theorem aw5 : ends2 ⟨#[55]⟩ ⟨#[105, 110, 102]⟩ = some (some 7, none) := by
 unfold ends2 ev
 rw [if_neg (by decide), if_pos (by decide), rv_of (q := 7) (by decide +kernel) (lg_of (by decide +kernel))]
 rfl
theorem aw6 : rv ⟨#[50, 47, 52]⟩ = none := by unfold rv; rw [show rat? (bytesOf ⟨#[50, 47, 52]⟩) = none by decide +kernel]; rfl
theorem aw7 : rv ⟨#[48, 47, 53]⟩ = none := by unfold rv; rw [show rat? (bytesOf ⟨#[48, 47, 53]⟩) = none by decide +kernel]; rfl
theorem aw8 : ends2 ⟨#[49, 47, 51]⟩ ⟨#[50, 47, 53]⟩ = some (some (1 / 3), some (2 / 5)) := by
 unfold ends2 ev
 rw [if_neg (by decide), if_neg (by decide), rv_of (q := 1 / 3) (by decide +kernel) (lg_of (by decide +kernel)), rv_of (q := 2 / 5) (by decide +kernel) (lg_of (by decide +kernel))]
 rfl
theorem wa1 (W : World) : Calls Tryz.prog 66 #[.string ⟨#[49, 47, 50]⟩, .string ⟨#[49, 47, 51]⟩] W fun e w' => Below W.heap.size W w' ∧ e = .returned (.tuple #[.string ⟨#[53, 47, 54]⟩, .int .i64 0]) := by
 have := radde_calls W ⟨#[49, 47, 50]⟩ ⟨#[49, 47, 51]⟩ (by decide) (by decide)
 rwa [aw1] at this
theorem wa2 (W : World) : Calls Tryz.prog 27 #[.string ⟨#[49, 47, 51]⟩, .string ⟨#[51, 47, 53]⟩] W fun e w' => Below W.heap.size W w' ∧ e = .returned (.tuple #[.string ⟨#[49, 47, 50]⟩, .int .i64 0]) := by
 have := simpe_calls W ⟨#[49, 47, 51]⟩ ⟨#[51, 47, 53]⟩ (by decide) (by decide)
 rwa [aw2] at this
theorem wa3 (W : World) : Calls Tryz.prog 13 #[.string ⟨#[45, 48, 48, 54, 47, 52]⟩] W fun e w' => Below W.heap.size W w' ∧ e = .returned (.tuple #[.string ⟨#[45, 51, 47, 50]⟩, .int .i64 0]) := by
 have := parse_calls W ⟨#[45, 48, 48, 54, 47, 52]⟩ (by decide)
 rwa [aw3] at this
theorem wa4 (W : World) : Calls Tryz.prog 36 #[.string ⟨#[45, 49, 47, 50]⟩] W fun e w' => Below W.heap.size W w' ∧ e = .returned (.tuple #[.string ⟨#[45, 49]⟩, .int .i64 0]) := by
 have := rfloor_calls W ⟨#[45, 49, 47, 50]⟩ (by decide)
 rw [aw4] at this
 simp only [Option.elim, aw4'] at this
 exact this
theorem wa5 (W : World) : Calls Tryz.prog 33 #[.string ⟨#[55]⟩, .string ⟨#[105, 110, 102]⟩] W fun e w' => Below W.heap.size W w' ∧ e = .returned (.string ⟨#[105, 110, 102]⟩) := by
 have := maxe_calls W ⟨#[55]⟩ ⟨#[105, 110, 102]⟩ (by decide) (by decide)
 rw [aw5] at this
 simp only [Option.elim] at this
 rwa [if_pos (by decide +kernel)] at this
theorem wa6 (W : World) {a : ByteArray} (h : a = ⟨#[50, 47, 52]⟩ ∨ a = ⟨#[48, 47, 53]⟩) : Calls Tryz.prog 50 #[.string a] W fun e w' => Below W.heap.size W w' ∧ e = .returned (.bool false) := by
 have := rvalid_calls W a (by rcases h with rfl | rfl <;> decide)
 have hr : rv a = none := by rcases h with rfl | rfl; exact aw6; exact aw7
 rwa [hr] at this
theorem wa8 (W : World) : Calls Tryz.prog 29 #[.string ⟨#[49, 47, 51]⟩, .string ⟨#[50, 47, 53]⟩] W fun e w' => Below W.heap.size W w' ∧ e = .returned (.int .i64 (-1)) := by
 have := cmpe_calls W ⟨#[49, 47, 51]⟩ ⟨#[50, 47, 53]⟩ (by decide) (by decide)
 rw [aw8] at this
 simp only [Option.elim] at this
 rwa [show ce (some (1 / 3)) (some (2 / 5)) = -1 by decide +kernel] at this
theorem awake_calls (W : World) : Calls Tryz.prog 15 #[] W fun e w' => Below W.heap.size W w' ∧ e = .returned (.bool true) := by
 have E := Env.start W
 go_enter Tryz.func15, Tryz.ntmps15
 go_wp2_with (first | (go_at_call 66; refine env_call E (wa1 _) ?_; clear E; rintro e wc E rfl; have q := E.cls; (repeat obtain ⟨_, _, q⟩ := q); clear q) | (go_at_call 27; refine env_call E (wa2 _) ?_; clear E; rintro e wc E rfl; have q := E.cls; (repeat obtain ⟨_, _, q⟩ := q); clear q) | (go_at_call 13; refine env_call E (wa3 _) ?_; clear E; rintro e wc E rfl; have q := E.cls; (repeat obtain ⟨_, _, q⟩ := q); clear q) | (go_at_call 36; refine env_call E (wa4 _) ?_; clear E; rintro e wc E rfl; have q := E.cls; (repeat obtain ⟨_, _, q⟩ := q); clear q) | (go_at_call 33; refine env_call E (wa5 _) ?_; clear E; rintro e wc E rfl; have q := E.cls; (repeat obtain ⟨_, _, q⟩ := q); clear q) | (go_at_call 50; refine env_call E (wa6 _ (by decide)) ?_; clear E; rintro e wc E rfl; have q := E.cls; (repeat obtain ⟨_, _, q⟩ := q); clear q) | (go_at_call 29; refine env_call E (wa8 _) ?_; clear E; rintro e wc E rfl; have q := E.cls; (repeat obtain ⟨_, _, q⟩ := q); clear q) | (go_at_call 23; refine env_call E (is_same _ _) ?_; clear E; rintro e wc E rfl; have q := E.cls; (repeat obtain ⟨_, _, q⟩ := q); clear q))
 go_ret
 exact ⟨E.below, rfl⟩
abbrev CU (f : Nat) (R : ByteArray → ByteArray → Prop) : Prop := ∀ (W : World) (u r : ByteArray), R u r → Calls Tryz.prog f #[.string u] W fun e w' => Below W.heap.size W w' ∧ e = .returned (.string r)
abbrev CE (f : Nat) (R : ByteArray → ByteArray → ByteArray → Prop) : Prop := ∀ (W : World) (u v r : ByteArray), R u v r → Calls Tryz.prog f #[.string u, .string v] W fun e w' => Below W.heap.size W w' ∧ e = .returned (.tuple #[.string r, .int .i64 0])
theorem madeCells_nonInt {z : Array Value} (hz : z.toList.all nonInt = true) (n : Nat) (h0 : 0 < z.size) : (madeCells z n).toList.all nonInt = true := by
 rw [List.all_eq_true] at hz ⊢
 intro x hx
 unfold madeCells at hx
 rw [Array.toList_map, List.mem_map] at hx
 obtain ⟨i, hi, rfl⟩ := hx
 have hlt : i % z.size < z.size := Nat.mod_lt _ h0
 rw [getElem!_pos z _ hlt]
 exact hz _ (by simp)
section
variable {P : Program} {ops : Array Oper} {rest : List Oper} {o : Oper} {a : Act} {Q : Exit → Act → World → Prop} {w0 W : World} {e size base n : Nat}
theorem RowN.makecap (hgd : o.guard = none) (t : TypeId) (x y : Operand) (ho : o.op = .makeSlice t x y) (hx : a.eval x = .int .i64 0) (hy : a.eval y = .int .i64 (n : Int))
  (ht : P.underlying t = some (.slice e)) (z : Value) (bytes : Nat) (hinfo : (P.info? e).map (fun i => (i.zero, i.size, i.bytes)) = some (some z, size, bytes)) (hz : z.cells.size = size) (hzn : z.cells.toList.all nonInt = true) (hs0 : 0 < size) (hb0 : 0 < bytes)
  (hl : n * bytes ≤ 281474976710656) (HB : Below base w0 W) (hbase : base ≤ W.heap.size)
  (h : ∀ g w1, RowN e size base w1 (.slice (some ⟨g, 0, none⟩) 0 n) 0 [] → Below base w0 w1 → IK W w1 → wpList P ops Q rest (a.put o.dst (.slice (some ⟨g, 0, none⟩) 0 n)) w1) : wpList P ops Q (o :: rest) a W := by
 obtain ⟨i0, hi, hzz⟩ := Option.map_eq_some_iff.1 hinfo
 simp only [Prod.mk.injEq] at hzz
 obtain ⟨hz0, hz1, hz2⟩ := hzz
 have hm : n ≤ 281474976710656 := Nat.le_trans (Nat.le_mul_of_pos_right _ hb0) hl
 have hr := run_make (P := P) W t e i0 z ht hi hz0 .i64 .i64 0 (n : Int) (by omega) (by omega)
  (by
   have h3 : ((i0.bytes * n : Nat) : Int) ≤ 281474976710656 := by rw [hz2, Nat.mul_comm]; omega
   rwa [Int.natCast_mul] at h3) (by omega)
 simp only [Int.toNat_zero, Int.toNat_natCast] at hr
 refine Kd.event_run (v := .slice (some ⟨W.heap.size, 0, none⟩) 0 n) (w1 := W.alloc (.cells (madeCells z.cells (n * i0.size)) e)) hgd ?_ (h W.heap.size _ ⟨by simp, .inr ⟨W.heap.size, n, (madeCells z.cells (n * i0.size)).toList, rfl, hbase, ?_, Nat.zero_le _, by simp only [maxLen]; omega, ?_, ?_⟩⟩ (HB.alloc hbase _) (IK.alloc W _))
 ·simp [execOp, ho, hx, hy, hr]
 ·simpa using heap_alloc_new W (.cells (madeCells z.cells (n * i0.size)) e)
 ·simp [size_madeCells, hz1]
 ·rw [List.nil_append]
  exact madeCells_nonInt hzn _ (by omega)
end
def iv (s : ByteArray) : Option Int := (int? (bytesOf s)).bind fun z => if Lg z = true then none else some z
def ivs : List ByteArray → Option (List Int)
 |[] => some []
 |s :: r => match iv s, ivs r with
  |some x, some xs => some (x :: xs)
  |_, _ => none
theorem ivs_snoc : ∀ (l : List ByteArray) (s : ByteArray), ivs (l ++ [s]) = match ivs l, iv s with | some xs, some x => some (xs ++ [x]) | _, _ => none
 |[], s => by rw [List.nil_append, ivs, ivs, ivs]; cases iv s <;> rfl
 |a :: l, s => by
  rw [List.cons_append, ivs, ivs_snoc l s, ivs]
  cases iv a <;> cases ivs l <;> cases iv s <;> rfl
theorem ivs_none : ∀ (l r : List ByteArray) (s : ByteArray), iv s = none → ivs (l ++ s :: r) = none
 |[], r, s, h => by rw [List.nil_append, ivs, h]
 |a :: l, r, s, h => by rw [List.cons_append, ivs, ivs_none l r s h]; cases iv a <;> rfl
theorem ivs_len : ∀ {l : List ByteArray} {xs : List Int}, ivs l = some xs → xs.length = l.length
 |[], xs, h => by cases h; rfl
 |a :: l, xs, h => by
  rw [ivs] at h
  split at h
  next x ys h1 h2 => cases h; rw [List.length_cons, List.length_cons, ivs_len h2]
  ·cases h
structure RawI where
 b : Bool
 A : Option Addr
 n : Nat
 c : Nat
 s : ByteArray
def RawI.cells (r : RawI) : List Value := [.bool r.b, .slice r.A r.n r.c, .string r.s]
def IntOk (W : World) (r : RawI) (z : Int) : Prop := Wh W r.b (.slice r.A r.n r.c) z
def IntsOk (W : World) : List RawI → List ByteArray → List Int → Prop
 |[], [], [] => True
 |r :: rs, s :: ss, x :: xs => (r.s = s ∧ IntOk W r x) ∧ IntsOk W rs ss xs
 |_, _, _ => False
theorem IntsOk.ik {W W' : World} (k : IK W W') : ∀ {rs : List RawI} {ss : List ByteArray} {xs : List Int}, IntsOk W rs ss xs → IntsOk W' rs ss xs
 |[], [], [], h => h
 |r :: rs, s :: ss, x :: xs, h => ⟨⟨h.1.1, Wh.ik h.1.2 k⟩, IntsOk.ik k h.2⟩
 |[], _ :: _, _, h => h.elim
 |[], [], _ :: _, h => h.elim
 |_ :: _, [], _, h => h.elim
 |_ :: _, _ :: _, [], h => h.elim
theorem IntsOk.snoc {W : World} {r : RawI} {s : ByteArray} {x : Int} (hx : r.s = s ∧ IntOk W r x) : ∀ {rs : List RawI} {ss : List ByteArray} {xs : List Int}, IntsOk W rs ss xs → IntsOk W (rs ++ [r]) (ss ++ [s]) (xs ++ [x])
 |[], [], [], h => ⟨hx, trivial⟩
 |a :: rs, c :: ss, b :: xs, h => ⟨h.1, IntsOk.snoc hx h.2⟩
 |[], _ :: _, _, h => h.elim
 |[], [], _ :: _, h => h.elim
 |_ :: _, [], _, h => h.elim
 |_ :: _, _ :: _, [], h => h.elim
def Is_ (rs : List RawI) : List Value := rs.flatMap RawI.cells
theorem Is_snoc (rs : List RawI) (r : RawI) : Is_ (rs ++ [r]) = Is_ rs ++ r.cells := by simp [Is_]
def RdwInv (ls : List ByteArray) (x : Int) (kq : Nat) (xs : List Int) : Prop := 0 ≤ x ∧ x ≤ (ls.length : Int) ∧ (kq : Int) = (ls.length : Int) + 1 - x ∧ ivs (ls.take x.toNat) = some xs
def RI (base : Nat) (ls : List ByteArray) (o : Option (List Int)) (e : Ending) (w' : World) : Prop := match o with
 |none => e = .returned (.tuple #[.slice none 0 0, .bool false])
 |some xs => ∃ g rs cs, e = .returned (.tuple #[.slice (some ⟨g, 0, none⟩) xs.length xs.length, .bool true]) ∧ base ≤ g ∧ w'.heap[g]? = some (.cells (Is_ rs ++ cs).toArray 123 (0, 0)) ∧ (Is_ rs ++ cs).all nonInt = true ∧ IntsOk w' rs ls xs
theorem RdwInv.next {ls : List ByteArray} {x : Int} {kq : Nat} {xs : List Int} {s : ByteArray} {e : Int} (h : RdwInv ls x kq xs) (hx : x < (ls.length : Int)) (hm : ls.length ≤ 1000000) (ht : ls.take (x.toNat + 1) = ls.take x.toNat ++ [s]) (he : iv s = some e) :
  kq - 1 < kq ∧ RdwInv ls (wrap64 (x + 1)) (kq - 1) (xs ++ [e]) ∧ (wrap64 (x + 1)).toNat = x.toNat + 1 := by
 obtain ⟨h1, h2, h3, h4⟩ := h
 have hw : wrap64 (x + 1) = x + 1 := wrap_id (by omega) (by omega)
 rw [hw]
 refine ⟨by omega, ⟨by omega, by omega, by omega, ?_⟩, by omega⟩
 rw [show (x + 1).toNat = x.toNat + 1 by omega, ht, ivs_snoc, h4, he]
theorem icells_one (r : RawI) : ∀ u ∈ r.cells, u.oneCell' = true := by
 intro u hu
 simp only [RawI.cells, List.mem_cons, List.not_mem_nil, or_false] at hu
 rcases hu with rfl | rfl | rfl <;> rfl
theorem rdw_facts {ls : List ByteArray} {s : ByteArray} {x : Int} (HS : ∀ s ∈ ls, s.size ≤ 9000000000000) (x0 : 0 ≤ x) (hx : x < (ls.length : Int)) (hs : s = rdOf ByteArray.empty ls x) : s.size ≤ 9000000000000 ∧ ls.take (x.toNat + 1) = ls.take x.toNat ++ [s] ∧ ∃ r, ls = ls.take x.toNat ++ s :: r := by
 have hl : x.toNat < ls.length := by omega
 have e : s = ls[x.toNat] := by rw [hs]; simp [rdOf, hl]
 subst e
 exact ⟨HS _ (List.getElem_mem hl), by rw [List.take_succ_eq_append_getElem hl], ls.drop (x.toNat + 1), by rw [← List.drop_eq_getElem_cons hl, List.take_append_drop]⟩
theorem wread_calls (w00 : World) {A : Option Addr} {c : Nat} {ls : List ByteArray} (h : Kd.C Kd.string w00 A ls.length ls) (hm : ls.length ≤ 1000000) (hs : ∀ s ∈ ls, s.size ≤ 9000000000000) : Calls Tryz.prog 125 #[.slice A ls.length c] w00 fun e w' => Below w00.heap.size w00 w' ∧ RI w00.heap.size ls (ivs ls) e w' := by
 have D := Aside0.mk h
 have HM := Aside0.mk hm
 have HS := Aside0.mk hs
 have HB := Aside0.mk (Below.refl w00.heap.size w00)
 clear h hm hs
 go_enter Tryz.func125, Tryz.ntmps125
 go_wp2_with (first | (at_make; refine RowN.makecap (w0 := w00) (base := w00.heap.size) (size := 3) (n := ls.length) (by rfl) 119 _ _ (by rfl) (by rfl) (by rfl) Tryz.underlying119 (.agg #[.bool false, .slice none 0 0, .string ByteArray.empty]) 48 info123 rfl (by rfl) (by decide) (by decide) (by have := HM.out; omega) HB.out HB.out.size ?_; intro gm wm ho hb hik; clear HB; have HO := Aside0.mk ho; have HB := Aside0.mk hb; clear ho hb hik))
 go_loopg [4, 14] (ls.length + 1) (fun kq v4 v14 w' => ∃ (x : Int) (rs : List RawI) (xs : List Int) (g cap : Nat), v14 = .int .i64 x ∧ v4 = .slice (some ⟨g, 0, none⟩) x.toNat cap ∧ Aside0 (RdwInv ls x kq xs) ∧ Aside0 (RowN 123 3 w00.heap.size w' (.slice (some ⟨g, 0, none⟩) x.toNat cap) x.toNat (Is_ rs)) ∧ Aside0 (IntsOk w' rs (ls.take x.toNat) xs) ∧ Aside0 (Below w00.heap.size w00 w'))
 case atStart => exact ⟨0, [], [], gm, ls.length, rfl, rfl, ⟨by simp [RdwInv, ivs]⟩, HO, ⟨trivial⟩, HB⟩
 case round =>
  clear HO HB
  obtain ⟨x, rs, xs, g, cap, rfl, rfl, INV, HO, EO, HB⟩ := hrel
  have x0 : 0 ≤ x := INV.out.1
  by_cases hx : x < (ls.length : Int)
  ·have hxb : decide (x < (ls.length : Int)) = true := decide_eq_true hx
   obtain ⟨ad, eA, cA⟩ := Kd.at_string (Kd.C_below D.out HB.out) x x0 hx
   cases eA
   obtain ⟨s, hs⟩ : ∃ s, s = rdOf ByteArray.empty ls x := ⟨_, rfl⟩
   rw [← hs] at cA
   have HSS := Aside0.mk (show s.size ≤ 9000000000000 ∧ ls.take (x.toNat + 1) = ls.take x.toNat ++ [s] ∧ ∃ r, ls = ls.take x.toNat ++ s :: r from rdw_facts HS.out x0 hx hs)
   have HX := Aside0.mk hx
   have hx1 : (0 ≤ x) = True := eq_true x0
   have hx2 : (x < (ls.length : Int)) = True := eq_true hx
   clear hx hs
   have E := Env.start wr
   have fin : iv s = none → ∀ w' : World, Below wr.heap.size wr w' → Below w00.heap.size w00 w' ∧ RI w00.heap.size ls (ivs ls) (.returned (.tuple #[.slice none 0 0, .bool false])) w' := fun h w' hb => by
    obtain ⟨r, hl⟩ := HSS.out.2.2
    rw [hl, ivs_none _ _ _ h]
    exact ⟨HB.out.trans (hb.mono HB.out.size), rfl⟩
   have FIN := Aside0.mk fin
   clear fin
   cases hr : int? (bytesOf s) with
   |none =>
    have HR := Aside0.mk hr
    clear hr
    go_wp2_with (first | ((with_reducible first | refine gate_box (by rfl) ?_ | refine gate_alloc (by rfl) ?_); refine bx_ E ?_; clear E; intro gb wb E; have q := E.cls; (repeat obtain ⟨_, _, q⟩ := q); clear q) | (go_at_call 95; refine env_call E (read_none _ HR.out HSS.out.1) ?_; clear E; rintro e wc E ⟨br, Ar, nr, cr, rfl, hw_⟩; replace E := E.wh hw_; clear hw_; have q := E.cls; (repeat obtain ⟨_, _, q⟩ := q); clear q) | ((with_reducible refine gate_stored (t := 77) (by rfl) ?_); refine st_ (fun ws hs_ => ?_); replace E := Env.pt2 hs_ E; clear hs_; have q := E.cls; (repeat obtain ⟨_, _, q⟩ := q); clear q))
    refine bodyPost_ret (results_list (rs := [.tmp _, .tmp _]) rfl (by simp) (.tmp (.tmp .nil))) rfl ?_
    exact FIN.out (by unfold iv; rw [HR.out]; rfl) _ E.below
   |some z =>
    have HR := Aside0.mk hr
    have HL := Aside0.mk (ln_text hr HSS.out.1)
    cases hg : Lg z with
    |true =>
     have HG := Aside0.mk hg
     clear hr
     go_wp2_with (first | ((with_reducible first | refine gate_box (by rfl) ?_ | refine gate_alloc (by rfl) ?_); refine bx_ E ?_; clear E; intro gb wb E; have q := E.cls; (repeat obtain ⟨_, _, q⟩ := q); clear q) | (go_at_call 95; refine env_call E (read_some _ HR.out HSS.out.1) ?_; clear E; rintro e wc E ⟨br, Ar, nr, cr, rfl, hw_⟩; replace E := E.wh hw_; clear hw_; have q := E.cls; (repeat obtain ⟨_, _, q⟩ := q); clear q) | ((with_reducible refine gate_stored (t := 77) (by rfl) ?_); refine st_ (fun ws hs_ => ?_); replace E := Env.pt2 hs_ E; clear hs_; have q := E.cls; (repeat obtain ⟨_, _, q⟩ := q); clear q) | (go_at_call 142; refine env_call E (long_calls E.getW (HL.out.fits (by omega))) ?_; clear E; rintro e wc E rfl; have q := E.cls; (repeat obtain ⟨_, _, q⟩ := q); clear q))
     refine bodyPost_ret (results_list (rs := [.tmp _, .tmp _]) rfl (by simp) (.tmp (.tmp .nil))) rfl ?_
     exact FIN.out (by unfold iv; rw [HR.out, Option.bind_some, if_pos HG.out]) _ E.below
    |false =>
     have HG := Aside0.mk hg
     have hn := INV.out.next HX.out HM.out HSS.out.2.1 (e := z) (by unfold iv; rw [hr, Option.bind_some, if_neg (by rw [hg]; decide)])
     replace hn := Aside0.mk hn
     clear hr
     go_wp2_with (first | ((with_reducible first | refine gate_box (by rfl) ?_ | refine gate_alloc (by rfl) ?_); refine bx_ E ?_; clear E; intro gb wb E; have q := E.cls; (repeat obtain ⟨_, _, q⟩ := q); clear q) | (go_at_call 95; refine env_call E (read_some _ HR.out HSS.out.1) ?_; clear E; rintro e wc E ⟨br, Ar, nr, cr, rfl, hw_⟩; replace E := E.wh hw_; clear hw_; have q := E.cls; (repeat obtain ⟨_, _, q⟩ := q); clear q) | ((with_reducible refine gate_stored (t := 77) (by rfl) ?_); refine st_ (fun ws hs_ => ?_); replace E := Env.pt2 hs_ E; clear hs_; have q := E.cls; (repeat obtain ⟨_, _, q⟩ := q); clear q) | (go_at_call 142; refine env_call E (long_calls E.getW (HL.out.fits (by omega))) ?_; clear E; rintro e wc E rfl; have q := E.cls; (repeat obtain ⟨_, _, q⟩ := q); clear q) | (at_builtin; refine RowN.append (w0 := w00) (base := w00.heap.size) (n := x.toNat) (xs := Is_ rs) (by rfl) _ _ 119 (.agg #[.bool false, .slice none 0 0, .string ByteArray.empty]) 48 (by rfl) Tryz.underlying119 info123 rfl rfl (by decide) (by decide) (RawI.cells ⟨br, Ar, nr, cr, s⟩) (by rfl) (by rfl) rfl (icells_one _) rfl (HO.out.below E.below) (HB.out.trans (E.below.mono HB.out.size)) (Nat.le_trans HB.out.size E.below.size) (by have := HM.out; have := HX.out; omega) ?_; intro v1 w1 ho hb hik hg; clear hg; rcases ho.2 with ⟨-, h0⟩ | ⟨g', cap', cs', rfl, -⟩; exact absurd h0 (Nat.succ_ne_zero _)))
     go_roundg (gk - 1)
     case measure => exact hn.out.1
     case rel => exact ⟨_, rs ++ [⟨br, Ar, nr, cr, s⟩], _, g', cap', rfl, by rw [hn.out.2.2], ⟨hn.out.2.1⟩, ⟨by rw [hn.out.2.2, Is_snoc]; exact ho⟩, ⟨by rw [hn.out.2.2, HSS.out.2.1]; exact IntsOk.snoc (r := ⟨br, Ar, nr, cr, s⟩) (s := s) (x := z) ⟨rfl, E.getW.ik hik⟩ ((EO.out.ik (IK.below E.below)).ik hik)⟩, ⟨hb⟩⟩
  ·have hxb : decide (x < (ls.length : Int)) = false := decide_eq_false hx
   have e : x.toNat = ls.length := by have := INV.out.2.1; omega
   have hxv : ivs ls = some xs := by have := INV.out.2.2.2; rwa [e, List.take_length] at this
   have hl : xs.length = ls.length := ivs_len hxv
   rw [e] at HO EO ⊢
   rw [List.take_length] at EO
   have HLC := Aside0.mk hl
   have HXV := Aside0.mk hxv
   have hcap : ls.length ≤ cap := by
    rcases HO.out.2 with ⟨h0, -⟩ | ⟨g', cap', cs', h0, -, -, h1, -⟩
    ·cases h0
    ·cases h0; exact h1
   have hel : Tryz.prog.elem 119 = 123 := by kernel_rfl
   have hi1 : (0 : Int) ≤ (ls.length : Int) := by omega
   have hi2 : (ls.length : Int) ≤ (cap : Int) := by omega
   clear hl hxv hx
   go_wp2
   refine bodyPost_ret (results_list (rs := [.tmp _, .tmp _]) rfl (by simp) (.tmp (.tmp .nil))) rfl ?_
   rw [HXV.out]
   rcases HO.out.2 with ⟨h0, -⟩ | ⟨g', cap', cs', h0, h1, h2, -, -, -, h3⟩
   ·cases h0
   ·cases h0
    exact ⟨HB.out, g, rs, cs', by rw [HLC.out]; rfl, h1, h2, h3, EO.out⟩
theorem strings_row (W : World) (t : Nat) (l : List ByteArray) (hl : l.length ≤ maxLen) : Kd.C Kd.string (W.alloc (.cells (l.map Value.string).toArray t (0, 0))) (some ⟨W.heap.size, 0, none⟩) l.length l := by
 refine ⟨rfl, hl, fun _ => ⟨_, rfl, fun j p hp => ⟨[.string p], rfl, rfl, fun i u hu => ?_⟩⟩⟩
 have hi : i = 0 := by
  rcases i with _ | i
  ·rfl
  ·simp at hu
 subst hi
 have hu' : u = .string p := by simpa using hu.symm
 subst hu'
 have := blk_cell (blk_new W (.cells (l.map Value.string).toArray t (0, 0))) j
 simp only [Addr.add_lit, Nat.zero_add, Nat.add_zero]
 rw [show j * Kd.string.sz = j from Nat.mul_one j, this]
 simp [hp]
theorem iv_ln {s : ByteArray} {z : Int} (h : iv s = some z) : Ln z 112 ∧ int? (bytesOf s) = some z := by
 unfold iv at h
 obtain ⟨w, h1, h2⟩ := Option.bind_eq_some_iff.1 h
 split at h2
 ·cases h2
 next hl =>
  cases h2
  exact ⟨ln_short (by simpa using hl), h1⟩
section
variable {w W : World} {rows : List (World → Prop)} {a b : ByteArray} {post : Ending → World → Prop}
theorem ints1_none (E : Env w W rows []) (ha : a.size ≤ 9000000000000) (hx : iv a = none) (h : ∀ w', Env w w' rows [] → post (.returned (.tuple #[.slice none 0 0, .bool false])) w') :
  Calls Tryz.prog 125 #[.slice (some ⟨W.heap.size, 0, none⟩) 1 1] (W.alloc (.cells #[.string a] 22 (0, 0))) post := by
 refine (wread_calls (W.alloc (.cells #[.string a] 22 (0, 0))) (strings_row W 22 [a] (show 1 ≤ maxLen by decide)) (by simp) (by simp [ha])).mono ?_
 rintro e w' ⟨hb', hr⟩
 rw [show ivs [a] = none from ivs_none [] [] a hx] at hr
 obtain rfl := hr
 exact h w' ((E.next (below_alloc (Below.refl _ _) _)).next hb')
theorem ints2_some (E : Env w W rows []) (ha : a.size ≤ 9000000000000) (hb : b.size ≤ 9000000000000) {x y : Int} (hx : iv a = some x) (hy : iv b = some y)
  (h : ∀ g b1 A1 x1 c1 b2 A2 x2 c2 cs w', Env w w' ((fun W => Wh W b1 (.slice A1 x1 c1) x) :: (fun W => Wh W b2 (.slice A2 x2 c2) y) :: rows)
   [(g, .bool b1 :: .slice A1 x1 c1 :: .string a :: .bool b2 :: .slice A2 x2 c2 :: .string b :: cs, 123)] → post (.returned (.tuple #[.slice (some ⟨g, 0, none⟩) 2 2, .bool true])) w') :
  Calls Tryz.prog 125 #[.slice (some ⟨W.heap.size, 0, none⟩) 2 2] (W.alloc (.cells #[.string a, .string b] 22 (0, 0))) post := by
 refine (wread_calls (W.alloc (.cells #[.string a, .string b] 22 (0, 0))) (strings_row W 22 [a, b] (show 2 ≤ maxLen by decide)) (by simp) (by simp [ha, hb])).mono ?_
 rintro e w' ⟨hb', hr⟩
 have hi : ivs [a, b] = some [x, y] := by simp [ivs, hx, hy]
 rw [hi] at hr
 obtain ⟨g, rs, cs, rfl, hg, hh, hall, he⟩ := hr
 obtain ⟨r1, r2, rfl⟩ : ∃ r1 r2, rs = [r1, r2] := by
  rcases rs with _ | ⟨r1, _ | ⟨r2, _ | ⟨r3, rs⟩⟩⟩
  ·exact he.elim
  ·exact he.2.elim
  ·exact ⟨r1, r2, rfl⟩
  ·exact he.2.2.elim
 have h1 : r1.s = a ∧ Wh w' r1.b (.slice r1.A r1.n r1.c) x := he.1
 have h2 : r2.s = b ∧ Wh w' r2.b (.slice r2.A r2.n r2.c) y := he.2.1
 have E' := (((E.next (below_alloc (Below.refl _ _) _)).next hb').wh h2.2).wh h1.2
 have hcs : Is_ [r1, r2] ++ cs = .bool r1.b :: .slice r1.A r1.n r1.c :: .string a :: .bool r2.b :: .slice r2.A r2.n r2.c :: .string b :: cs := by
  rw [← h1.1, ← h2.1]
  rfl
 rw [hcs] at hh hall
 refine h g r1.b r1.A r1.n r1.c r2.b r2.A r2.n r2.c cs w' ⟨E'.below, E'.rows, ⟨⟨?_, hh, hall, fun b hb => by cases hb⟩, trivial⟩⟩
 have := E.below.size
 have h3 : W.heap.size ≤ (W.alloc (.cells #[.string a, .string b] 22 (0, 0))).heap.size := (below_alloc (Below.refl W.heap.size W) (.cells #[.string a, .string b] 22 (0, 0))).size
 omega
theorem ints1_some (E : Env w W rows []) (ha : a.size ≤ 9000000000000) {x : Int} (hx : iv a = some x)
  (h : ∀ g b1 A1 x1 c1 cs w', Env w w' ((fun W => Wh W b1 (.slice A1 x1 c1) x) :: rows) [(g, .bool b1 :: .slice A1 x1 c1 :: .string a :: cs, 123)] → post (.returned (.tuple #[.slice (some ⟨g, 0, none⟩) 1 1, .bool true])) w') :
  Calls Tryz.prog 125 #[.slice (some ⟨W.heap.size, 0, none⟩) 1 1] (W.alloc (.cells #[.string a] 22 (0, 0))) post := by
 refine (wread_calls (W.alloc (.cells #[.string a] 22 (0, 0))) (strings_row W 22 [a] (show 1 ≤ maxLen by decide)) (by simp) (by simp [ha])).mono ?_
 rintro e w' ⟨hb', hr⟩
 have hi : ivs [a] = some [x] := by simp [ivs, hx]
 rw [hi] at hr
 obtain ⟨g, rs, cs, rfl, hg, hh, hall, he⟩ := hr
 obtain ⟨r1, rfl⟩ : ∃ r1, rs = [r1] := by
  rcases rs with _ | ⟨r1, _ | ⟨r2, rs⟩⟩
  ·exact he.elim
  ·exact ⟨r1, rfl⟩
  ·exact he.2.elim
 have h1 : r1.s = a ∧ Wh w' r1.b (.slice r1.A r1.n r1.c) x := he.1
 have E' := ((E.next (below_alloc (Below.refl _ _) _)).next hb').wh h1.2
 have hcs : Is_ [r1] ++ cs = .bool r1.b :: .slice r1.A r1.n r1.c :: .string a :: cs := by
  rw [← h1.1]
  rfl
 rw [hcs] at hh hall
 refine h g r1.b r1.A r1.n r1.c cs w' ⟨E'.below, E'.rows, ⟨⟨?_, hh, hall, fun b hb => by cases hb⟩, trivial⟩⟩
 have := E.below.size
 have h3 : W.heap.size ≤ (W.alloc (.cells #[.string a] 22 (0, 0))).heap.size := (below_alloc (Below.refl W.heap.size W) (.cells #[.string a] 22 (0, 0))).size
 omega
end
theorem wabs_calls (W : World) {a : ByteArray} {x : Int} (ha : iv a = some x) (hsa : a.size ≤ 9000000000000) : Calls Tryz.prog 76 #[.string a] W fun e w' => Below W.heap.size W w' ∧ e = .returned (.string (TX x.natAbs)) := by
 have E := Env.start W
 have HSA := Aside0.mk hsa
 have HX := Aside0.mk ha
 have LX := Aside0.mk (iv_ln ha).1
 have TXE := Aside0.mk (int?_TX (iv_ln ha).2)
 clear ha hsa
 by_cases h : sgnI x < 0
 ·have hb : decide (sgnI x < 0) = true := decide_eq_true h
  go_enter Tryz.func76, Tryz.ntmps76
  go_wp2_with (first | (go_at_call 125; refine ints1_some E HSA.out HX.out ?_; clear E; rintro g b1 A1 x1 c1 cs wc E; have q := E.cls; (repeat obtain ⟨_, _, q⟩ := q); clear q) | (go_at_call 84; refine env_call E (sign_calls E.getW) ?_; clear E; rintro e wc E rfl; have q := E.cls; (repeat obtain ⟨_, _, q⟩ := q); clear q) | (go_at_call 86; refine env_call E (neg_calls E.getW) ?_; clear E; rintro e wc E ⟨br, Ar, nr, cr, rfl, hw_⟩; replace E := E.wh hw_; clear hw_; have q := E.cls; (repeat obtain ⟨_, _, q⟩ := q); clear q) | (go_at_call 114; refine env_call E (text_calls E.getW (LX.out.neg.mono (by omega))) ?_; clear E; rintro e wc E rfl; have q := E.cls; (repeat obtain ⟨_, _, q⟩ := q); clear q))
  go_ret
  have hx : x < 0 := (sgnI_neg x).1 h
  exact ⟨E.below, by rw [show (x.natAbs : Int) = -x by omega]; rfl⟩
 ·have hb : decide (sgnI x < 0) = false := decide_eq_false h
  go_enter Tryz.func76, Tryz.ntmps76
  go_wp2_with (first | (go_at_call 125; refine ints1_some E HSA.out HX.out ?_; clear E; rintro g b1 A1 x1 c1 cs wc E; have q := E.cls; (repeat obtain ⟨_, _, q⟩ := q); clear q) | (go_at_call 84; refine env_call E (sign_calls E.getW) ?_; clear E; rintro e wc E rfl; have q := E.cls; (repeat obtain ⟨_, _, q⟩ := q); clear q))
  go_ret
  have hx : ¬ x < 0 := fun h2 => absurd ((sgnI_neg x).2 h2) (by omega)
  exact ⟨E.below, by rw [show (x.natAbs : Int) = x by omega, ← TXE.out]; rfl⟩
theorem wof_calls (W : World) {n : Int} (h0 : -9223372036854775808 ≤ n) (h1 : n ≤ 9223372036854775807) : Calls Tryz.prog 74 #[.int .i64 n] W fun e w' => Below W.heap.size W w' ∧ e = .returned (.string (TX n)) := by
 have E := Env.start W
 have H0 := Aside0.mk h0
 have H1 := Aside0.mk h1
 have HL := Aside0.mk (ln_i64 h0 h1)
 clear h0 h1
 go_enter Tryz.func74, Tryz.ntmps74
 go_wp2_with (first | (go_at_call 121; refine env_call E (of_calls H0.out H1.out) ?_; clear E; rintro e wc E ⟨br, Ar, nr, cr, rfl, hw_⟩; replace E := E.wh hw_; clear hw_; have q := E.cls; (repeat obtain ⟨_, _, q⟩ := q); clear q) | (go_at_call 114; refine env_call E (text_calls E.getW (HL.out.mono (by omega))) ?_; clear E; rintro e wc E rfl; have q := E.cls; (repeat obtain ⟨_, _, q⟩ := q); clear q))
 go_ret
 exact ⟨E.below, rfl⟩
def wres (z : Int) : ByteArray × Int := if Lg z = true then (⟨#[]⟩, 3) else (TX z, 0)
section
variable {W : World} {b : Bool} {A : Option Addr} {n c : Nat} {z : Int}
theorem wresult_calls (h : Wh W b (.slice A n c) z) (hl : Ln z 1000000000000) : Calls Tryz.prog 139 #[.agg #[.bool b, .slice A n c]] W fun e w' => Below W.heap.size W w' ∧ e = .returned (.tuple #[.string (wres z).1, .int .i64 (wres z).2]) := by
 have E := (Env.start W).wh h
 have HL := Aside0.mk hl
 clear h hl
 cases hg : Lg z with
 |true =>
  go_enter Tryz.func139, Tryz.ntmps139
  go_wp2_with (first | ((with_reducible first | refine gate_box (by rfl) ?_ | refine gate_alloc (by rfl) ?_); refine bx_ E ?_; clear E; intro gb wb E; have q := E.cls; (repeat obtain ⟨_, _, q⟩ := q); clear q) | (go_at_call 142; refine env_call E (long_calls E.getW (HL.out.fits (by omega))) ?_; clear E; rintro e wc E rfl; have q := E.cls; (repeat obtain ⟨_, _, q⟩ := q); clear q) | (go_at_call 114; refine env_call E (text_calls E.getW HL.out) ?_; clear E; rintro e wc E rfl; have q := E.cls; (repeat obtain ⟨_, _, q⟩ := q); clear q))
  refine bodyPost_ret (results_list (rs := [.tmp _, .tmp _]) rfl (by simp) (.tmp (.tmp .nil))) rfl ?_
  exact ⟨E.below, by unfold wres; rw [if_pos hg]; rfl⟩
 |false =>
  go_enter Tryz.func139, Tryz.ntmps139
  go_wp2_with (first | ((with_reducible first | refine gate_box (by rfl) ?_ | refine gate_alloc (by rfl) ?_); refine bx_ E ?_; clear E; intro gb wb E; have q := E.cls; (repeat obtain ⟨_, _, q⟩ := q); clear q) | (go_at_call 142; refine env_call E (long_calls E.getW (HL.out.fits (by omega))) ?_; clear E; rintro e wc E rfl; have q := E.cls; (repeat obtain ⟨_, _, q⟩ := q); clear q) | (go_at_call 114; refine env_call E (text_calls E.getW HL.out) ?_; clear E; rintro e wc E rfl; have q := E.cls; (repeat obtain ⟨_, _, q⟩ := q); clear q))
  refine bodyPost_ret (results_list (rs := [.tmp _, .tmp _]) rfl (by simp) (.tmp (.tmp .nil))) rfl ?_
  exact ⟨E.below, by unfold wres; rw [if_neg (by rw [hg]; decide)]; rfl⟩
end
theorem wmul_calls (W : World) {a b : ByteArray} {x y : Int} (ha : iv a = some x) (hb : iv b = some y) (hsa : a.size ≤ 9000000000000) (hsb : b.size ≤ 9000000000000) : Calls Tryz.prog 75 #[.string a, .string b] W fun e w' => Below W.heap.size W w' ∧ e = .returned (.tuple #[.string (wres (x * y)).1, .int .i64 (wres (x * y)).2]) := by
 have E := Env.start W
 have HSA := Aside0.mk hsa
 have HSB := Aside0.mk hsb
 have HX := Aside0.mk ha
 have HY := Aside0.mk hb
 have LX := Aside0.mk (iv_ln ha).1
 have LY := Aside0.mk (iv_ln hb).1
 have HM := Aside0.mk (Ln.mul (iv_ln ha).1 (iv_ln hb).1)
 clear ha hb hsa hsb
 go_enter Tryz.func75, Tryz.ntmps75
 go_wp2_with (first | (go_at_call 125; refine ints2_some E HSA.out HSB.out HX.out HY.out ?_; clear E; rintro g b1 A1 x1 c1 b2 A2 x2 c2 cs wc E; have q := E.cls; (repeat obtain ⟨_, _, q⟩ := q); clear q) | (refine start_ (id := 4) (n := 14) (S := fun w' => Cls w' _) (ds := []) (bz 14 0) (by kernel_rfl) rfl rfl E.draw.cls (fun hH => ?_); replace E := E.draw; refine pu_ 0 (some 17) (bz 14 1) ?_; refine pu_ 1 (some 18) (bz 14 3) ?_; refine pu_ 2 (some 19) (bz 14 7) ?_; refine pu_ 4 (some 21) (bz 14 23) ?_; refine pu_ 5 (some 22) (bz 14 55) ?_; refine pu_ 6 (some 23) (bz 14 119) ?_; refine ta_ 3 (some 20) (bz 14 127) hH ?_; refine ta_ 7 (some 24) (bz 14 255) hH ?_; refine on_ 8 (some 25) (bz 14 511) (fun K hK => ?_); refine gs_ Tryz.func122 ?_; refine env_call E (mul_calls E.getW E.getW (by have := LX.out; have := LY.out; unfold Ln at *; omega)) ?_; clear E; rintro e wc E ⟨br, Ar, nr, cr, rfl, hw_⟩; replace E := E.wh hw_; clear hw_; refine ⟨_, rfl, ?_⟩; refine hK.out _ _ E.cls (fun hH => ?_); clear hK K; refine nm_ (some 25) ?_; refine on_ 9 (some 26) (bz 14 1023) (fun K hK => ?_); refine gs_ Tryz.func139 ?_; refine env_call E (wresult_calls E.getW (HM.out.mono (by omega))) ?_; clear E; rintro e wc E rfl; refine ⟨_, rfl, ?_⟩; refine hK.out _ _ E.cls (fun hH => ?_); clear hK K; refine nm_ (some 26) ?_; refine pu_ 10 (some 27) (bz 14 2047) ?_; refine pu_ 11 (some 28) (bz 14 4095) ?_; refine pu_ 12 (some 4) (bz 14 8191) ?_; refine pu_ 13 (some 5) (bz 14 16383) ?_; refine done_ (by kernel_rfl) ?_; all_goals (have q := E.cls; (repeat obtain ⟨_, _, q⟩ := q); clear q)))
 all_goals refine bodyPost_ret (results_list (rs := [.tmp _, .tmp _]) rfl (by simp) (.tmp (.tmp .nil))) rfl ?_
 all_goals exact ⟨E.below, rfl⟩
theorem wvalid_calls (W : World) {a : ByteArray} (hsa : a.size ≤ 9000000000000) : Calls Tryz.prog 94 #[.string a] W fun e w' => Below W.heap.size W w' ∧ e = .returned (.bool (iv a).isSome) := by
 have E := Env.start W
 have HSA := Aside0.mk hsa
 clear hsa
 cases hx : iv a with
 |none =>
  have HX := Aside0.mk hx
  clear hx
  go_enter Tryz.func94, Tryz.ntmps94
  go_wp2_with (first | (go_at_call 125; refine ints1_none E HSA.out HX.out ?_; clear E; rintro wc E))
  go_ret
  exact ⟨E.below, rfl⟩
 |some x =>
  have HX := Aside0.mk hx
  clear hx
  go_enter Tryz.func94, Tryz.ntmps94
  go_wp2_with (first | (go_at_call 125; refine ints1_some E HSA.out HX.out ?_; clear E; rintro g b1 A1 x1 c1 cs wc E))
  go_ret
  exact ⟨E.below, rfl⟩
theorem wvalid_of {W : World} {a : ByteArray} {v : Bool} (h : (iv a).isSome = v) (hsa : a.size ≤ 9000000000000) : Calls Tryz.prog 94 #[.string a] W fun e w' => Below W.heap.size W w' ∧ e = .returned (.bool v) := h ▸ wvalid_calls W hsa
theorem Bxs.sub {w W : World} : ∀ {bx bx' : List (Nat × List Value × Nat)}, bx'.Sublist bx → Bxs w W bx → Bxs w W bx'
 |_, _, .slnil, h => h
 |_, _, .cons a s, h => Bxs.sub s h.2
 |_, _, .cons_cons a s, h => ⟨⟨h.1.1, h.1.2.1, h.1.2.2.1, fun b hb => h.1.2.2.2 b (s.subset hb)⟩, Bxs.sub s h.2⟩
theorem Env.sub {w W : World} {rows rows' : List (World → Prop)} {bx bx' : List (Nat × List Value × Nat)} (E : Env w W rows bx) (hr : ∀ P ∈ rows', P ∈ rows) (hb : bx'.Sublist bx) : Env w W rows' bx' := ⟨E.below, fun P h => E.rows P (hr P h), E.bxs.sub hb⟩
theorem Bxs.keep {w W W' : World} : ∀ {bx : List (Nat × List Value × Nat)}, (∀ b ∈ bx, W'.heap[b.1]? = W.heap[b.1]?) → Bxs w W bx → Bxs w W' bx
 |[], _, _ => trivial
 |b :: r, k, ⟨⟨h1, h2, h3, h4⟩, h⟩ => ⟨⟨h1, (k b List.mem_cons_self).trans h2, h3, h4⟩, Bxs.keep (fun b' hb => k b' (List.mem_cons_of_mem _ hb)) h⟩
theorem Bxs.left {w W : World} : ∀ {a b : List (Nat × List Value × Nat)}, Bxs w W (a ++ b) → Bxs w W a
 |[], _, _ => trivial
 |x :: a, b, h => ⟨⟨h.1.1, h.1.2.1, h.1.2.2.1, fun y hy => h.1.2.2.2 y (List.mem_append_left _ hy)⟩, Bxs.left h.2⟩
theorem Bxs.over {w W : World} : ∀ {a b : List (Nat × List Value × Nat)}, Bxs w W (a ++ b) → ∀ x ∈ a, ∀ y ∈ b, y.1 < x.1
 |c :: a, b, h, x, hx, y, hy => by
  rcases List.mem_cons.1 hx with rfl | hx
  ·exact h.1.2.2.2 y (List.mem_append_right _ hy)
  ·exact Bxs.over h.2 x hx y hy
theorem Bxs.snoc {w W : World} {g : Nat} {cs : List Value} {t : Nat} (h0 : w.heap.size ≤ g) (h1 : W.heap[g]? = some (.cells cs.toArray t (0, 0))) (h2 : cs.all nonInt = true) : ∀ {a : List (Nat × List Value × Nat)}, Bxs w W a → (∀ x ∈ a, g < x.1) → Bxs w W (a ++ [(g, cs, t)])
 |[], _, _ => ⟨⟨h0, h1, h2, fun b hb => by cases hb⟩, trivial⟩
 |x :: a, h, k => ⟨⟨h.1.1, h.1.2.1, h.1.2.2.1, fun y hy => by
   rcases List.mem_append.1 hy with hy | hy
   ·exact h.1.2.2.2 y hy
   ·obtain rfl := List.mem_singleton.1 hy
    exact k x List.mem_cons_self⟩, Bxs.snoc h0 h1 h2 h.2 fun y hy => k y (List.mem_cons_of_mem _ hy)⟩
theorem Clb.skip {W : World} {P : Prop} : ∀ {g i : Nat} {cs : List Value}, Clb W g i cs P → P
 |_, _, [], h => h
 |_, _, _ :: _, h => Clb.skip h.2.2
section
variable {w W : World} {rows : List (World → Prop)} {b0 b1 b2 b3 b4 : Nat × List Value × Nat} {r : List (Nat × List Value × Nat)}
end
theorem in2 {α : Type} {a b : α} {l : List α} (h1 : a ∈ l) (h2 : b ∈ l) : ∀ P ∈ [a, b], P ∈ l := fun P h => by
 rcases List.mem_cons.1 h with rfl | h
 ·exact h1
 ·obtain rfl := List.mem_singleton.1 h
  exact h2
section
variable {w W : World} {rows : List (World → Prop)} {pre bo : List (Nat × List Value × Nat)} {v : Value} {xs : List ByteArray}
variable {P : Program} {ops : Array Oper} {rest : List Oper} {o : Oper} {a : Act} {Q : Exit → Act → World → Prop}
end
def PowRel (w W : World) (g9 g : Nat) (b1 : Bool) (A1 : Option Addr) (x1 c1 : Nat) (a : ByteArray) (cs : List Value) (x p : Int) : Prop := ∃ (b : Bool) (A : Option Addr) (m c : Nat), Env w W [(fun w => Wh w b (.slice A m c) p), (fun w => Wh w b1 (.slice A1 x1 c1) x)] [(g9, [.bool b, .slice A m c], 77), (g, .bool b1 :: .slice A1 x1 c1 :: .string a :: cs, 123)]
theorem PowRel.mk {w W : World} {rows : List (World → Prop)} {bx : List (Nat × List Value × Nat)} {g9 g : Nat} {b1 : Bool} {A1 : Option Addr} {x1 c1 : Nat} {a : ByteArray} {cs : List Value} {x p : Int} {b : Bool} {A : Option Addr} {m c : Nat} (E : Env w W rows bx) (hb : [(g9, [.bool b, .slice A m c], 77), (g, .bool b1 :: .slice A1 x1 c1 :: .string a :: cs, 123)].Sublist bx)
  (h1 : (fun w => Wh w b (.slice A m c) p) ∈ rows) (h2 : (fun w => Wh w b1 (.slice A1 x1 c1) x) ∈ rows) : PowRel w W g9 g b1 A1 x1 c1 a cs x p := ⟨b, A, m, c, E.sub (in2 h1 h2) hb⟩
theorem wpow_calls (W : World) {a : ByteArray} {x : Int} {n : Nat} (ha : iv a = some x) (hsa : a.size ≤ 9000000000000) (h1 : 1 < x.natAbs) (hn : n ≤ 1000000) (hp : ∀ i, i ≤ n → Lg (x ^ i) = false) : Calls Tryz.prog 77 #[.string a, .int .i64 (n : Int)] W fun e w' => Below W.heap.size W w' ∧ e = .returned (.tuple #[.string (TX (x ^ n)), .int .i64 0]) := by
 have E := Env.start W
 have HSA := Aside0.mk hsa
 have HX := Aside0.mk ha
 have HP := Aside0.mk hp
 have HN := Aside0.mk hn
 have LX := Aside0.mk (iv_ln ha).1
 have hs : 0 < sgnI ((x.natAbs : Int) - 1) := (sgnI_pos _).2 (by omega)
 have hs1 : decide (sgnI ((x.natAbs : Int) - 1) ≤ 0) = false := decide_eq_false (by omega)
 have hs2 : (sgnI ((x.natAbs : Int) - 1) ≤ 0) = False := eq_false (by omega)
 have hn0 : decide ((n : Int) < 0) = false := decide_eq_false (by omega)
 have hn1 : ((n : Int) < 0) = False := eq_false (by omega)
 clear ha hsa hp h1 hn hs
 go_enter Tryz.func77, Tryz.ntmps77
 go_wp2_with (first | ((with_reducible first | refine gate_box (by rfl) ?_ | refine gate_alloc (by rfl) ?_); refine bx_ E ?_; clear E; intro gb wb E; have q := E.cls; (repeat obtain ⟨_, _, q⟩ := q); clear q) | ((with_reducible refine gate_stored (t := 77) (by rfl) ?_); refine st_ (fun ws hs_ => ?_); replace E := Env.pt2 hs_ E; clear hs_; have q := E.cls; (repeat obtain ⟨_, _, q⟩ := q); clear q) | (go_at_call 125; refine ints1_some E HSA.out HX.out ?_; clear E; rintro g b1 A1 x1 c1 cs wc E; have q := E.cls; (repeat obtain ⟨_, _, q⟩ := q); clear q) | (go_at_call 121; refine env_call E (of_calls (n := 1) (by decide) (by decide)) ?_; clear E; rintro e wc E ⟨br, Ar, nr, cr, rfl, hw_⟩; replace E := E.wh hw_; clear hw_; have q := E.cls; (repeat obtain ⟨_, _, q⟩ := q); clear q) | (refine start_ (id := 5) (n := 8) (S := fun w' => Cls w' _) (ds := []) (bz 8 0) (by kernel_rfl) rfl rfl E.draw.cls (fun hH => ?_); replace E := E.draw; refine pu_ 0 (some 23) (bz 8 1) ?_; refine pu_ 1 (some 24) (bz 8 3) ?_; refine pu_ 2 (some 25) (bz 8 7) ?_; refine ta_ 3 (some 26) (bz 8 15) hH ?_; refine ta_ 5 (some 28) (bz 8 47) hH ?_; refine on_ 4 (some 27) (bz 8 63) (fun K hK => ?_); refine gs_ Tryz.func140 ?_; refine env_call E (abs_calls E.getW) ?_; clear E; rintro e wc E ⟨br, Ar, nr, cr, rfl, hw_⟩; replace E := E.wh hw_; clear hw_; refine ⟨_, rfl, ?_⟩; refine hK.out _ _ E.cls (fun hH => ?_); clear hK K; refine nm_ (some 27) ?_; refine on_ 6 (some 29) (bz 8 127) (fun K hK => ?_); refine gs_ Tryz.func141 ?_; refine env_call E (cmp_calls E.getW E.getW) ?_; clear E; rintro e wc E rfl; refine ⟨_, rfl, ?_⟩; refine hK.out _ _ E.cls (fun hH => ?_); clear hK K; refine nm_ (some 29) ?_; refine pu_ 7 (some 30) (bz 8 255) ?_; refine done_ (by kernel_rfl) ?_; all_goals (have q := E.cls; (repeat obtain ⟨_, _, q⟩ := q); clear q)))
 go_loopg [49] (n + 1) (fun kq v49 w' => ∃ i : Nat, v49 = .int .i64 (i : Int) ∧ Aside0 (i ≤ n ∧ kq = n + 1 - i) ∧ Aside0 (PowRel W w' gb g b1 A1 x1 c1 a cs x (x ^ i)))
 case atStart =>
  refine ⟨0, rfl, ⟨by omega, by omega⟩, ⟨?_⟩⟩
  rw [Int.pow_zero]
  apply PowRel.mk E; (· (repeat (first | exact List.nil_sublist _ | exact List.Sublist.refl _ | apply List.Sublist.cons_cons | apply List.Sublist.cons))); (· (repeat (first | exact List.Mem.head _ | apply List.Mem.tail))); (· (repeat (first | exact List.Mem.head _ | apply List.Mem.tail)))
 case round =>
  clear E
  obtain ⟨i, rfl, INV, PR⟩ := hrel
  obtain ⟨b, A, m, c, E⟩ := PR.out
  clear PR
  by_cases hi : i < n
  ·have hib : decide ((i : Int) < (n : Int)) = true := decide_eq_true (by omega)
   have hib2 : ((i : Int) < (n : Int)) = True := eq_true (by omega)
   have HG := Aside0.mk (show Lg (x ^ i * x) = false from by rw [← Int.pow_succ]; exact HP.out (i + 1) hi)
   have hlg : Lg (x ^ i * x) = false := HG.out
   have LI := Aside0.mk (ln_short (HP.out i (by omega)))
   have LJ := Aside0.mk (ln_short HG.out)
   have hw : wrap64 ((i : Int) + 1) = ((i + 1 : Nat) : Int) := wrap_nat i (by have := HN.out; omega)
   have q := E.cls; (repeat obtain ⟨_, _, q⟩ := q); clear q
   go_wp2_with (first | ((with_reducible first | refine gate_box (by rfl) ?_ | refine gate_alloc (by rfl) ?_); refine bx_ E ?_; clear E; intro gb wb E; have q := E.cls; (repeat obtain ⟨_, _, q⟩ := q); clear q) | ((with_reducible refine gate_stored (t := 77) (by rfl) ?_); refine st_ (fun ws hs_ => ?_); replace E := Env.pt2 hs_ E; clear hs_; have q := E.cls; (repeat obtain ⟨_, _, q⟩ := q); clear q) | (refine start_ (id := 14) (n := 7) (S := fun w' => Cls w' _) (ds := [6]) (bz 7 0) (by kernel_rfl) rfl rfl E.draw.cls (fun hH => ?_); replace E := E.draw; refine pu_ 1 (some 52) (bz 7 2) ?_; refine pu_ 2 (some 53) (bz 7 6) ?_; refine pu_ 3 (some 54) (bz 7 14) ?_; refine ta_ 0 (some 51) (bz 7 15) hH ?_; refine ta_ 4 (some 55) (bz 7 31) hH ?_; refine on_ 5 (some 56) (bz 7 63) (fun K hK => ?_); refine gs_ Tryz.func122 ?_; refine env_call E (mul_calls E.getW E.getW (by have := LI.out; have := LX.out; unfold Ln at *; omega)) ?_; clear E; rintro e wc E ⟨br, Ar, nr, cr, rfl, hw_⟩; replace E := E.wh hw_; clear hw_; refine ⟨_, rfl, ?_⟩; refine hK.out _ _ E.cls (fun hH => ?_); clear hK K; refine nm_ (some 56) ?_; refine la_ 6 (none) (bz 7 127) (fun K hK => ?_); have q := E.cls; (repeat obtain ⟨_, _, q⟩ := q); clear q; refine sk_ (fun ws hs_ => ?_); replace E := Env.pt2 hs_ E; clear hs_; refine hK.out _ _ ?_; clear hK K; have q := E.cls; (repeat obtain ⟨_, _, q⟩ := q); clear q; refine done_ (by kernel_rfl) ?_; all_goals (have q := E.cls; (repeat obtain ⟨_, _, q⟩ := q); clear q)) | (go_at_call 142; refine env_call E (long_calls E.getW (LJ.out.fits (by decide))) ?_; clear E; rintro e wc E rfl; have q := E.cls; (repeat obtain ⟨_, _, q⟩ := q); clear q))
   go_roundg (gk - 1)
   case measure => have := INV.out; omega
   case rel =>
    refine ⟨i + 1, by rw [hw], ⟨by omega, by have := INV.out; omega⟩, ⟨?_⟩⟩
    rw [Int.pow_succ]
    apply PowRel.mk E; (· (repeat (first | exact List.nil_sublist _ | exact List.Sublist.refl _ | apply List.Sublist.cons_cons | apply List.Sublist.cons))); (· (repeat (first | exact List.Mem.head _ | apply List.Mem.tail))); (· (repeat (first | exact List.Mem.head _ | apply List.Mem.tail)))
  ·have hib : decide ((i : Int) < (n : Int)) = false := decide_eq_false (by omega)
   have hib2 : ((i : Int) < (n : Int)) = False := eq_false (by omega)
   obtain rfl : i = n := by have := INV.out.1; omega
   have LI := Aside0.mk (ln_short (HP.out i (Nat.le_refl i)))
   have q := E.cls; (repeat obtain ⟨_, _, q⟩ := q); clear q
   go_wp2_with (first | (go_at_call 114; refine env_call E (text_calls E.getW (LI.out.mono (by decide))) ?_; clear E; rintro e wc E rfl; have q := E.cls; (repeat obtain ⟨_, _, q⟩ := q); clear q))
   refine bodyPost_ret (results_list (rs := [.tmp _, .tmp _]) rfl (by simp) (.tmp (.tmp .nil))) rfl ?_
   exact ⟨E.below, rfl⟩
theorem make_some (W : World) {a b : ByteArray} {x y : Int} (hsa : a.size ≤ 9000000000000) (hsb : b.size ≤ 9000000000000) (hx : iv a = some x) (hy : iv b = some y) (h0 : y ≠ 0) : Calls Tryz.prog 16 #[.string a, .string b] W fun e w' => Below W.heap.size W w' ∧ e = .returned (.tuple #[.string (RT (Rat.divInt x y)), .int .i64 0]) := by
 have E := Env.start W
 have HSA := Aside0.mk hsa
 have HSB := Aside0.mk hsb
 have HX := Aside0.mk (show (iv a).isSome = true by rw [hx]; rfl)
 have HY := Aside0.mk (show (iv b).isSome = true by rw [hy]; rfl)
 have IX := Aside0.mk (iv_ln hx)
 have IY := Aside0.mk (iv_ln hy)
 have HQ := Aside0.mk (lnq_div (iv_ln hx).1 (iv_ln hy).1 (by decide))
 have H0 := Aside0.mk h0
 have hb0 : (b.toList == [48]) = false := beq_eq_false_iff_ne.2 fun e => h0 (by
  have h1 : bytesOf b = [48] := by rw [ByteArray.toList_eq] at e; unfold bytesOf; rw [e]; rfl
  have h2 := (iv_ln hy).2
  rw [h1] at h2
  exact (Option.some.inj (h2.symm.trans (by decide))))
 clear hsa hsb hx hy h0
 go_enter Tryz.func16, Tryz.ntmps16
 go_wp2_with (first | ((with_reducible first | refine gate_box (by rfl) ?_ | refine gate_alloc (by rfl) ?_); refine bx_ E ?_; clear E; intro gb wb E; have q := E.cls; (repeat obtain ⟨_, _, q⟩ := q); clear q) | ((with_reducible refine gate_stored (t := 77) (by rfl) ?_); refine st_ (fun ws hs_ => ?_); replace E := Env.pt2 hs_ E; clear hs_; have q := E.cls; (repeat obtain ⟨_, _, q⟩ := q); clear q) | (go_at_call 94; refine env_call E (wvalid_of (by first | exact HX.out | exact HY.out) (by first | exact HSA.out | exact HSB.out)) ?_; clear E; rintro e wc E rfl; have q := E.cls; (repeat obtain ⟨_, _, q⟩ := q); clear q) | (go_at_call 95; refine env_call E (read_some _ (by first | exact IX.out.2 | exact IY.out.2) (by first | exact HSA.out | exact HSB.out)) ?_; clear E; rintro e wc E ⟨br, Ar, nr, cr, rfl, hw_⟩; replace E := E.wh hw_; clear hw_; have q := E.cls; (repeat obtain ⟨_, _, q⟩ := q); clear q) | (go_at_call 88; refine env_call E (over_calls E.getW E.getW H0.out (IX.out.1.fits (by decide)) (IY.out.1.fits (by decide))) ?_; clear E; rintro e wc E ⟨br, Ar, nr, cr, br2, Ar2, nr2, cr2, rfl, hw_, hw2_⟩; replace E := (E.wh hw_).wh hw2_; clear hw_ hw2_; have q := E.cls; (repeat obtain ⟨_, _, q⟩ := q); clear q) | (go_at_call 96; refine env_call E (rtext_calls (q := Rat.divInt x y) E.getW E.getW rfl (dn_den _) (HQ.out.1.mono (by decide)) ((HQ.out.2.dn (by decide)).mono (by decide))) ?_; clear E; rintro e wc E rfl; have q := E.cls; (repeat obtain ⟨_, _, q⟩ := q); clear q))
 refine bodyPost_ret (results_list (rs := [.tmp _, .tmp _]) rfl (by simp) (.tmp (.tmp .nil))) rfl ?_
 exact ⟨E.below, rfl⟩
def zr : Nat → ByteArray → ByteArray
 |0, a => a
 |i + 1, a => ⟨#[48]⟩ ++ zr i a
theorem zr_size : ∀ (i : Nat) (a : ByteArray), (zr i a).size = i + a.size
 |0, a => (Nat.zero_add _).symm
 |i + 1, a => by
  rw [zr, ByteArray.size_append, zr_size i a]
  show 1 + (i + a.size) = _
  omega
structure TxF (Nu De Ab : ByteArray → ByteArray → Prop) (Mu Mk : ByteArray → ByteArray → ByteArray → Prop) (Pa : ByteArray → ByteArray → Prop) (x n d f an m c ten w M Z : ByteArray) (z : Nat) : Prop where
 nu : Nu x n
 de : De x d
 ab : Ab n an
 m1 : Mu an f m
 m2 : Mu d f c
 kk : Mk n ten w
 p1 : Pa x x
 p2 : Pa (((((M ++ Z) ++ m) ++ ⟨#[47]⟩) ++ Z) ++ c) x
 p3 : z = 0 → Pa (M ++ zr (z + 1 - an.size) an) w
 p4 : 0 < z → Pa (M ++ (((zr (z + 1 - an.size) an).extract 0 ((zr (z + 1 - an.size) an).size - z) ++ ⟨#[46]⟩) ++ (zr (z + 1 - an.size) an).extract ((zr (z + 1 - an.size) an).size - z) (zr (z + 1 - an.size) an).size)) w
 hZ : Z.size = z
 hz : z ≤ 9
 hm : m.size ≤ 2000
 hc : c.size ≤ 2000
 ha : an.size ≤ 2000
theorem txtl_walk {A0 A1 x n d f an m c ten w M Z : ByteArray} {k g : Int} {z : Nat} {Ft : ByteArray → ByteArray → ByteArray → Prop} {Nu De Ab : ByteArray → ByteArray → Prop} {Mu Mk : ByteArray → ByteArray → ByteArray → Prop} {Pa : ByteArray → ByteArray → Prop}
  (HF : ∀ (W : World) (u v r : ByteArray), Ft u v r → Calls Tryz.prog 18 #[.string u, .string v, .int .i64 60] W fun e w' => Below W.heap.size W w' ∧ e = .returned (.string r))
  (HN : CU 54 Nu) (HD : CU 28 De) (HA : CU 76 Ab) (HM : CE 75 Mu) (HK : CE 16 Mk)
  (HP : ∀ (W : World) (u r : ByteArray), Pa u r → Calls Tryz.prog 13 #[.string u] W fun e w' => Below W.heap.size W w' ∧ e = .returned (.tuple #[.string r, .int .i64 0]))
  (HO : ∀ W : World, Calls Tryz.prog 74 #[.int .i64 (1 + k)] W fun e w' => Below W.heap.size W w' ∧ e = .returned (.string f))
  (HG : ∀ W : World, Calls Tryz.prog 31 #[.string x] W fun e w' => Below W.heap.size W w' ∧ e = .returned (.int .i64 g))
  (HW : ∀ W : World, Calls Tryz.prog 77 #[.string ⟨#[49, 48]⟩, .int .i64 (Z.size : Int)] W fun e w' => Below W.heap.size W w' ∧ e = .returned (.tuple #[.string ten, .int .i64 0]))
  (f1 : Ft A0 A1 x) (F : TxF Nu De Ab Mu Mk Pa x n d f an m c ten w M Z z)
  (k0 : 0 ≤ k) (k1 : k < 256) (hz : k % 10 = (z : Int)) (hZ : (⟨#[48, 48, 48, 48, 48, 48, 48, 48, 48]⟩ : ByteArray).extract 0 z = Z)
  (hM : (g < 0 ∧ M = ⟨#[45]⟩) ∨ (¬ g < 0 ∧ k % 2 = 1 ∧ (x.toList == [48]) = true ∧ M = ⟨#[45]⟩) ∨ (¬ g < 0 ∧ k % 2 = 1 ∧ (x.toList == [48]) = false ∧ M = ⟨#[]⟩) ∨ (¬ g < 0 ∧ k % 2 ≠ 1 ∧ M = ⟨#[]⟩)) (W : World) :
  Calls Tryz.prog 11 #[.agg #[.string A0, .string A1], .int .u8 k] W fun e w' => Below W.heap.size W w' ∧ e = .returned (.bool true) := by
 have E := Env.start W
 have FF := Aside0.mk (And.intro HF (And.intro HN (And.intro HD (And.intro HA (And.intro HM (And.intro HK (And.intro HP (And.intro HO (And.intro HG HW)))))))))
 have F1 := Aside0.mk f1
 have FA := Aside0.mk F
 clear HF HN HD HA HM HK HP HO HG HW f1 F
 have key : (decide (g < 0) = true ∧ (g < 0) = True ∧ M = ⟨#[45]⟩) ∨ ((decide (g < 0) = false ∧ (g < 0) = False) ∧ ((k % 2 == 1) = true ∧ (k % 2 = 1) = True) ∧ (x.toList == [48]) = true ∧ M = ⟨#[45]⟩) ∨ ((decide (g < 0) = false ∧ (g < 0) = False) ∧ ((k % 2 == 1) = true ∧ (k % 2 = 1) = True) ∧ (x.toList == [48]) = false ∧ M = ⟨#[]⟩) ∨ ((decide (g < 0) = false ∧ (g < 0) = False) ∧ ((k % 2 == 1) = false ∧ (k % 2 = 1) = False) ∧ M = ⟨#[]⟩) := by
  rcases hM with ⟨a, b⟩ | ⟨a, b, e, h⟩ | ⟨a, b, e, h⟩ | ⟨a, b, e⟩
  ·exact .inl ⟨decide_eq_true a, eq_true a, b⟩
  ·exact .inr (.inl ⟨⟨decide_eq_false a, eq_false a⟩, ⟨beq_iff_eq.2 b, eq_true b⟩, e, h⟩)
  ·exact .inr (.inr (.inl ⟨⟨decide_eq_false a, eq_false a⟩, ⟨beq_iff_eq.2 b, eq_true b⟩, e, h⟩))
  ·exact .inr (.inr (.inr ⟨⟨decide_eq_false a, eq_false a⟩, ⟨beq_eq_false_iff_ne.2 b, eq_false b⟩, e⟩))
 clear hM
 have t1 : (9223372036854775807 < 1 + Z.size) = False := eq_false (by have := FA.out.hZ; have := FA.out.hz; have := FA.out.hm; have := FA.out.hc; omega)
 have t2 : (9223372036854775807 < 1 + Z.size + m.size) = False := eq_false (by have := FA.out.hZ; have := FA.out.hz; have := FA.out.hm; have := FA.out.hc; omega)
 have t3 : (9223372036854775807 < 1 + Z.size + m.size + 1) = False := eq_false (by have := FA.out.hZ; have := FA.out.hz; have := FA.out.hm; have := FA.out.hc; omega)
 have t4 : (9223372036854775807 < 1 + Z.size + m.size + 1 + Z.size) = False := eq_false (by have := FA.out.hZ; have := FA.out.hz; have := FA.out.hm; have := FA.out.hc; omega)
 have t5 : (9223372036854775807 < 1 + Z.size + m.size + 1 + Z.size + c.size) = False := eq_false (by have := FA.out.hZ; have := FA.out.hz; have := FA.out.hm; have := FA.out.hc; omega)
 have t6 : (9223372036854775807 < Z.size) = False := eq_false (by have := FA.out.hZ; have := FA.out.hz; have := FA.out.hm; have := FA.out.hc; omega)
 have t7 : (9223372036854775807 < Z.size + m.size) = False := eq_false (by have := FA.out.hZ; have := FA.out.hz; have := FA.out.hm; have := FA.out.hc; omega)
 have t8 : (9223372036854775807 < Z.size + m.size + 1) = False := eq_false (by have := FA.out.hZ; have := FA.out.hz; have := FA.out.hm; have := FA.out.hc; omega)
 have t9 : (9223372036854775807 < Z.size + m.size + 1 + Z.size) = False := eq_false (by have := FA.out.hZ; have := FA.out.hz; have := FA.out.hm; have := FA.out.hc; omega)
 have t10 : (9223372036854775807 < Z.size + m.size + 1 + Z.size + c.size) = False := eq_false (by have := FA.out.hZ; have := FA.out.hz; have := FA.out.hm; have := FA.out.hc; omega)
 rcases key with ⟨e1, e2, rfl⟩ | ⟨⟨e1, e2⟩, ⟨e3, e4⟩, e5, rfl⟩ | ⟨⟨e1, e2⟩, ⟨e3, e4⟩, e5, rfl⟩ | ⟨⟨e1, e2⟩, ⟨e3, e4⟩, rfl⟩
 all_goals (
  go_enter Tryz.func11, Tryz.ntmps11
  go_wp2_with (first | ((with_reducible first | refine gate_box (by rfl) ?_ | refine gate_alloc (by rfl) ?_); refine bx_ E ?_; clear E; intro gb wb E; have q := E.cls; (repeat obtain ⟨_, _, q⟩ := q); clear q) | (go_at_call 18; refine env_call E (FF.out.1 _ _ _ _ F1.out) ?_; clear E; rintro e wc E rfl; have q := E.cls; (repeat obtain ⟨_, _, q⟩ := q); clear q) | (go_at_call 54; refine env_call E (FF.out.2.1 _ _ _ FA.out.nu) ?_; clear E; rintro e wc E rfl; have q := E.cls; (repeat obtain ⟨_, _, q⟩ := q); clear q) | (go_at_call 28; refine env_call E (FF.out.2.2.1 _ _ _ FA.out.de) ?_; clear E; rintro e wc E rfl; have q := E.cls; (repeat obtain ⟨_, _, q⟩ := q); clear q) | (go_at_call 74; refine env_call E (FF.out.2.2.2.2.2.2.2.1 _) ?_; clear E; rintro e wc E rfl; have q := E.cls; (repeat obtain ⟨_, _, q⟩ := q); clear q) | (go_at_call 76; refine env_call E (FF.out.2.2.2.1 _ _ _ FA.out.ab) ?_; clear E; rintro e wc E rfl; have q := E.cls; (repeat obtain ⟨_, _, q⟩ := q); clear q) | (go_at_call 75; refine env_call E (FF.out.2.2.2.2.1 _ _ _ _ (by first | exact FA.out.m1 | exact FA.out.m2)) ?_; clear E; rintro e wc E rfl; have q := E.cls; (repeat obtain ⟨_, _, q⟩ := q); clear q) | (go_at_call 31; refine env_call E (FF.out.2.2.2.2.2.2.2.2.1 _) ?_; clear E; rintro e wc E rfl; have q := E.cls; (repeat obtain ⟨_, _, q⟩ := q); clear q) | (go_at_call 13; refine env_call E (FF.out.2.2.2.2.2.2.1 _ _ _ (by first | exact FA.out.p1 | exact FA.out.p2)) ?_; clear E; rintro e wc E rfl; have q := E.cls; (repeat obtain ⟨_, _, q⟩ := q); clear q) | (go_at_call 77; refine env_call E (FF.out.2.2.2.2.2.2.2.2.2 _) ?_; clear E; rintro e wc E rfl; have q := E.cls; (repeat obtain ⟨_, _, q⟩ := q); clear q) | (go_at_call 16; refine env_call E (FF.out.2.2.2.2.2.1 _ _ _ _ FA.out.kk) ?_; clear E; rintro e wc E rfl; have q := E.cls; (repeat obtain ⟨_, _, q⟩ := q); clear q))
  go_loopg [23] (z + 1 - an.size + 1) (fun kq v23 w' => ∃ i : Nat, v23 = .string (zr i an) ∧ Aside0 (i ≤ z + 1 - an.size ∧ kq = z + 1 - an.size + 1 - i) ∧ Aside0 (Below W.heap.size W w'))
  case atStart => exact ⟨0, rfl, ⟨by omega, by omega⟩, ⟨E.below⟩⟩
  case round =>
   clear E
   obtain ⟨i, rfl, INV, HB⟩ := hrel
   by_cases hi : i < z + 1 - an.size
   ·have hn := Aside0.mk (show gk - 1 < gk ∧ i + 1 ≤ z + 1 - an.size ∧ gk - 1 = z + 1 - an.size + 1 - (i + 1) by have := INV.out; omega)
    have hs := zr_size i an
    have hb : decide (((zr i an).size : Int) ≤ (Z.size : Int)) = true := decide_eq_true (by have := FA.out.hZ; omega)
    have hb2 : (((zr i an).size : Int) ≤ (Z.size : Int)) = True := eq_true (by have := FA.out.hZ; omega)
    have hb3 : ((zr i an).size ≤ Z.size) = True := eq_true (by have := FA.out.hZ; omega)
    have ht : (9223372036854775807 < 1 + (zr i an).size) = False := eq_false (by have := FA.out.hz; omega)
    clear hs hi
    go_wp2
    go_roundg (gk - 1)
    case measure => exact hn.out.1
    case rel => exact ⟨i + 1, rfl, ⟨hn.out.2⟩, HB⟩
   ·obtain rfl : i = z + 1 - an.size := by have := INV.out.1; omega
    have hs := zr_size (z + 1 - an.size) an
    have hzz := FA.out.hZ
    have hz9 := FA.out.hz
    have hna := FA.out.ha
    have FP := Aside0.mk (And.intro FA.out.p3 FA.out.p4)
    obtain ⟨t, htt⟩ : ∃ t, zr (z + 1 - an.size) an = t := ⟨_, rfl⟩
    rw [htt] at hs FP ⊢
    obtain ⟨e, he⟩ : ∃ e, t.size - z = e := ⟨_, rfl⟩
    have hb : decide ((t.size : Int) ≤ (Z.size : Int)) = false := decide_eq_false (by omega)
    have hb2 : ((t.size : Int) ≤ (Z.size : Int)) = False := eq_false (by omega)
    have hb3 : (t.size ≤ Z.size) = False := eq_false (by omega)
    have hw : wrap64 ((t.size : Int) - (Z.size : Int)) = (e : Int) := by rw [wrap_id (by omega) (by omega)]; omega
    have TS := Aside0.mk (show t.size ≤ 2010 ∧ e ≤ t.size ∧ e + Z.size = t.size by omega)
    by_cases h0 : z = 0
    ·have hp := Aside0.mk (FP.out.1 h0)
     have hz0 : decide (0 < (Z.size : Int)) = false := decide_eq_false (by omega)
     have hz1 : (0 < (Z.size : Int)) = False := eq_false (by omega)
     have hz2 : (0 < Z.size) = False := eq_false (by omega)
     have u1 : (9223372036854775807 < 1 + t.size) = False := eq_false (by omega)
     have u2 : (9223372036854775807 < t.size) = False := eq_false (by omega)
     clear hzz hz9 hna hs htt he h0 FP
     have E := Env.start wr
     go_wp2_with (first | (go_at_call 13; refine env_call E (FF.out.2.2.2.2.2.2.1 _ _ _ hp.out) ?_; clear E; rintro e wc E rfl; have q := E.cls; (repeat obtain ⟨_, _, q⟩ := q); clear q) | (go_at_call 23; refine env_call E (is_same _ _) ?_; clear E; rintro e wc E rfl; have q := E.cls; (repeat obtain ⟨_, _, q⟩ := q); clear q) | (go_at_call 15; refine env_call E (awake_calls _) ?_; clear E; rintro e wc E rfl; have q := E.cls; (repeat obtain ⟨_, _, q⟩ := q); clear q))
     refine bodyPost_ret (results_single rfl (.tmp .nil)) rfl ?_
     exact ⟨HB.out.trans (E.below.mono HB.out.size), rfl⟩
    ·have hp := Aside0.mk (FP.out.2 (by omega))
     rw [he] at hp
     have hz0 : decide (0 < (Z.size : Int)) = true := decide_eq_true (by omega)
     have hz1 : (0 < (Z.size : Int)) = True := eq_true (by omega)
     have hz2 : (0 < Z.size) = True := eq_true (by omega)
     have v1 : ((0 : Int) ≤ (e : Int)) = True := eq_true (by omega)
     have v2 : ((e : Int) ≤ (t.size : Int)) = True := eq_true (by omega)
     have v3 : (e ≤ t.size) = True := eq_true (by omega)
     have u1 : (9223372036854775807 < e + 1) = False := eq_false (by omega)
     have u2 : (9223372036854775807 < e + 1 + (t.size - e)) = False := eq_false (by omega)
     have u3 : (9223372036854775807 < 1 + (e + 1 + (t.size - e))) = False := eq_false (by omega)
     have v4 : (t.size ≤ 9223372036854775807) = True := eq_true (by omega)
     clear hzz hz9 hna hs htt he h0 FP
     have E := Env.start wr
     go_wp2
     (refine start_ (id := 20) (n := 17) (S := fun w' => Cls w' _) (ds := []) (bz 17 0) (by kernel_rfl) rfl rfl E.draw.cls (fun hH => ?_); replace E := E.draw; refine pu_ 0 (some 116) (bz 17 1) ?_; refine pu_ 1 (some 117) (bz 17 3) ?_; refine pu_ 2 (some 118) (bz 17 7) ?_; refine pu_ 3 (some 119) (bz 17 15) ?_; refine pu_ 4 (some 120) (bz 17 31) ?_; refine pu_ 5 (some 121) (bz 17 63) ?_; refine pu_ 6 (some 122) (bz 17 127) ?_; refine pu_ 7 (some 123) (bz 17 255) ?_; refine pu_ 8 (some 124) (bz 17 511) ?_; refine pu_ 9 (some 125) (bz 17 1023) ?_; refine pu_ 10 (some 126) (bz 17 2047) ?_; refine pu_ 11 (some 127) (bz 17 4095) ?_; refine pu_ 12 (some 128) (bz 17 8191) ?_; refine pu_ 13 (some 129) (bz 17 16383) ?_; refine pu_ 14 (some 130) (bz 17 32767) ?_; refine pu_ 15 (some 131) (bz 17 65535) ?_; refine pu_ 16 (some 23) (bz 17 131071) ?_; refine done_ (by kernel_rfl) ?_; all_goals (have q := E.cls; (repeat obtain ⟨_, _, q⟩ := q); clear q))
     go_wp2_with (first | (go_at_call 13; refine env_call E (FF.out.2.2.2.2.2.2.1 _ _ _ hp.out) ?_; clear E; rintro e wc E rfl; have q := E.cls; (repeat obtain ⟨_, _, q⟩ := q); clear q) | (go_at_call 23; refine env_call E (is_same _ _) ?_; clear E; rintro e wc E rfl; have q := E.cls; (repeat obtain ⟨_, _, q⟩ := q); clear q) | (go_at_call 15; refine env_call E (awake_calls _) ?_; clear E; rintro e wc E rfl; have q := E.cls; (repeat obtain ⟨_, _, q⟩ := q); clear q))
     refine bodyPost_ret (results_single rfl (.tmp .nil)) rfl ?_
     exact ⟨HB.out.trans (E.below.mono HB.out.size), rfl⟩)
theorem parS_of {s : ByteArray} {mi : Bool} {l : List Int} {a b : Int} (h : bytesOf s = (if mi = true then [45] else []) ++ l) (hh : l.head? ≠ some 45) (hs : s.size ≤ 4000) (hp : parL l = .ok (a, b)) :
  parS s = res (Rat.divInt (if mi = true then -a else a) b) := by
 unfold parS
 rw [if_neg (by omega)]
 have hc : (cutm s).2 = mi ∧ bytesOf (cutm s).1 = l := by
  unfold cutm
  cases mi with
  |true =>
   simp only [if_true, List.singleton_append] at h
   rw [if_pos (by rw [h]; rfl)]
   refine ⟨rfl, ?_⟩
   rw [bytesOf_extract, ← bytesOf_size, List.take_length, h]
   rfl
  |false =>
   simp only [Bool.false_eq_true, if_false, List.nil_append] at h
   rw [if_neg (by rw [h]; exact hh)]
   exact ⟨rfl, h⟩
 rw [hc.1, hc.2, hp]
theorem isd_mem {l : List Int} (h : l.all isd = true) {c : Int} (hc : c ∈ l) : 48 ≤ c ∧ c ≤ 57 := (isd_iff c).1 (List.all_eq_true.1 h c hc)
theorem dgl_of {l : List Int} (h : l.all isd = true) (h0 : l ≠ []) : dgl l = true := by
 unfold dgl
 rw [h]
 cases l with
 |nil => exact absurd rfl h0
 |cons a l => rfl
theorem dgl_head {l r : List Int} (h : dgl l = true) : (l ++ r).head? ≠ some 45 := by
 cases l with
 |nil => cases h
 |cons a l =>
  intro e
  have h1 : a = 45 := by simpa using e
  have h2 := isd_mem (l := a :: l) (by unfold dgl at h; rw [Bool.and_eq_true] at h; exact h.1) List.mem_cons_self
  omega
theorem dgl_all {l : List Int} (h : dgl l = true) : l.all isd = true := by
 unfold dgl at h
 rw [Bool.and_eq_true] at h
 exact h.1
theorem dgl_no {l : List Int} (h : dgl l = true) {c : Int} (hc : c < 48) : c ∉ l := fun hm => by
 have := isd_mem (dgl_all h) hm
 omega
theorem parL_whole {l : List Int} (h : dgl l = true) : parL l = .ok (tv l, 1) := by
 unfold parL
 rw [if_neg (dgl_no h (by decide)), if_neg (dgl_no h (by decide)), if_pos h]
theorem parL_quot {a b : List Int} (ha : dgl a = true) (hb : dgl b = true) (h0 : tv b ≠ 0) : parL (a ++ 47 :: b) = .ok (tv a, tv b) := by
 have hn : (46 : Int) ∉ a ++ 47 :: b := fun hm => by
  rcases List.mem_append.1 hm with hm | hm
  ·exact dgl_no ha (by decide) hm
  ·rcases List.mem_cons.1 hm with hm | hm
   ·cases hm
   ·exact dgl_no hb (by decide) hm
 have hc := cutat_list (c := 47) (b := b) (dgl_no ha (by decide))
 unfold parL
 rw [if_neg hn, if_pos (by simp), hc.1, hc.2, if_pos ⟨ha, hb⟩, if_neg h0]
theorem parL_dec {a b : List Int} (ha : dgl a = true) (hb : dgl b = true) : parL (a ++ 46 :: b) = .ok (tv (a ++ b), 10 ^ b.length) := by
 have hc := cutat_list (c := 46) (b := b) (dgl_no ha (by decide))
 unfold parL
 rw [if_pos (by simp), hc.1, hc.2, if_pos ⟨ha, hb⟩]
theorem tv_ntx_ {z : Int} (h : 0 ≤ z) : tv (ntx z) = z := by
 unfold ntx tv sub
 rw [List.map_reverse, sg_sub, List.reverse_reverse]
 split
 next e => rw [e]; rfl
 ·rw [Ten.dg_val]; omega
theorem ntx_ne {z : Int} (h : 0 ≤ z) : ntx z ≠ [] := by
 unfold ntx sg
 split
 ·simp
 next h1 =>
  simp only [ne_eq, List.reverse_eq_nil_iff, List.map_eq_nil_iff]
  exact dg_ne (by omega)
theorem zeros_all (k : Nat) : (List.replicate k (48 : Int)).all isd = true := List.all_eq_true.2 fun x hx => by rw [List.eq_of_mem_replicate hx]; rfl
theorem all_zn (k : Nat) (z : Int) : (List.replicate k 48 ++ ntx z).all isd = true := by rw [List.all_append, ntx_isd, zeros_all]; rfl
theorem dgl_zn (k : Nat) {z : Int} (h : 0 ≤ z) : dgl (List.replicate k 48 ++ ntx z) = true := dgl_of (all_zn k z) (by simp [ntx_ne h])
theorem tv_zn (k : Nat) {z : Int} (h : 0 ≤ z) : tv (List.replicate k 48 ++ ntx z) = z := by rw [tv_zeros, tv_ntx_ h]
theorem ntx_len10 {z : Int} {k : Nat} (h0 : 0 ≤ z) (h : z < 10 ^ k) (hk : 1 ≤ k) : (ntx z).length ≤ k := by
 unfold ntx sg
 rw [List.length_reverse, List.length_map]
 split
 ·simpa using hk
 next h1 =>
  by_cases hl : (Ten.dg z.toNat).length ≤ k
  ·exact hl
  ·exfalso
   have h2 := Ten.can_low _ (Ten.dg_can z.toNat) (dg_ne (by omega))
   rw [Ten.dg_val, Int.toNat_of_nonneg h0] at h2
   have h3 : (10 : Int) ^ k ≤ 10 ^ ((Ten.dg z.toNat).length - 1) := Ten.pow_mono (by omega)
   omega
theorem cast_lt {a k : Nat} (h : a < 10 ^ k) : (a : Int) < 10 ^ k := by
 have := Int.ofNat_lt.2 h
 rwa [Int.natCast_pow] at this
theorem pow_abs_lt {k m : Nat} (h : k < m) : ((10 : Int) ^ k).natAbs < 10 ^ m := by
 rw [Int.natAbs_pow]
 exact Nat.pow_lt_pow_right (by decide) h
theorem lgq_dec {q : Rat} {k m : Nat} (hq : Lq q m) (h : k < m) (h1 : 1 ≤ m) (h2 : m ≤ 1000) : lgq (Rat.divInt q.num (10 ^ k)) = false := (lq_div hq.1 (pow_abs_lt h) h1).lg h2
theorem natAbs_sgn {z : Int} {mi : Bool} (h : mi = true ∧ z ≤ 0 ∨ mi = false ∧ 0 ≤ z) : (if mi = true then -(z.natAbs : Int) else (z.natAbs : Int)) = z := by
 rcases h with ⟨rfl, h⟩ | ⟨rfl, h⟩
 ·rw [if_pos rfl]; omega
 ·rw [if_neg (by decide)]; omega
section
variable {q : Rat} {mi : Bool} {s : ByteArray} {k : Nat}
theorem parS_quot (hq : Lq q 300) (hm : mi = true ∧ q.num ≤ 0 ∨ mi = false ∧ 0 ≤ q.num) {f : Int} (hf : 0 < f) (hf' : f < 1000) (hk : k ≤ 9) (hs : bytesOf s = (if mi = true then [45] else []) ++ ((List.replicate k 48 ++ ntx (q.num.natAbs * f)) ++ 47 :: (List.replicate k 48 ++ ntx (q.den * f)))) :
  parS s = (RT q, 0) := by
 have hn0 : (0 : Int) ≤ q.num.natAbs * f := Int.mul_nonneg (by omega) (by omega)
 have hd1 : (0 : Int) < q.den * f := Int.mul_pos (Int.ofNat_lt.2 q.den_pos) hf
 have hp : (10 : Int) ^ 303 = 10 ^ 300 * 1000 := by rw [show 303 = 300 + 3 from rfl, Int.pow_add]; rfl
 have hb : ∀ {a : Nat}, a < 10 ^ 300 → (a : Int) * f < 10 ^ 303 := fun {a} ha => by
  have h1 := cast_lt ha
  rw [hp]
  exact Int.mul_lt_mul h1 (by omega) hf (Int.pow_nonneg (by decide))
 have l1 := ntx_len10 hn0 (hb hq.1) (by decide)
 have l2 := ntx_len10 (Int.le_of_lt hd1) (hb hq.2) (by decide)
 have hlen : s.size ≤ 4000 := by
  rw [← bytesOf_size, hs]
  simp only [List.length_append, List.length_cons, List.length_replicate]
  have : (if mi = true then [(45 : Int)] else []).length ≤ 1 := by cases mi <;> decide
  omega
 have d1 := dgl_zn k hn0
 have d2 := dgl_zn k (Int.le_of_lt hd1)
 rw [parS_of hs (dgl_head d1) hlen (parL_quot d1 d2 (by rw [tv_zn k (Int.le_of_lt hd1)]; omega)), tv_zn k hn0, tv_zn k (Int.le_of_lt hd1)]
 have e : Rat.divInt (if mi = true then -(q.num.natAbs * f) else q.num.natAbs * f) (q.den * f) = q := by
  have e1 : (if mi = true then -((q.num.natAbs : Int) * f) else (q.num.natAbs : Int) * f) = q.num * f := by
   conv => rhs; rw [← natAbs_sgn hm]
   cases mi
   ·simp
   ·simp [Int.neg_mul]
  rw [e1, Rat.divInt_mul_right (by omega), Rat.num_divInt_den]
 rw [e, res_ok (hq.lg (by decide))]
theorem parS_self (hq : Lq q 300) : parS (RT q) = (RT q, 0) := by
 have hm : decide (q.num < 0) = true ∧ q.num ≤ 0 ∨ decide (q.num < 0) = false ∧ 0 ≤ q.num := by
  by_cases h : q.num < 0
  ·exact .inl ⟨decide_eq_true h, by omega⟩
  ·exact .inr ⟨decide_eq_false h, by omega⟩
 have hx : tx q.num = (if decide (q.num < 0) = true then [45] else []) ++ ntx q.num.natAbs := by
  by_cases h : q.num < 0
  ·rw [tx_neg h, if_pos (decide_eq_true h), show (q.num.natAbs : Int) = -q.num by omega]; rfl
  ·rw [tx_nonneg (by omega), if_neg (by simpa using h), show (q.num.natAbs : Int) = q.num by omega]; rfl
 by_cases h1 : q.den = 1
 ·have d1 := dgl_zn 0 (z := q.num.natAbs) (by omega)
  have hs : bytesOf (RT q) = (if decide (q.num < 0) = true then [45] else []) ++ (List.replicate 0 48 ++ ntx q.num.natAbs) := by
   rw [bytesOf_RT, rtx, if_pos h1, hx]; rfl
  have l1 := ntx_len10 (z := q.num.natAbs) (k := 300) (by omega) (cast_lt hq.1) (by decide)
  have hlen : (RT q).size ≤ 4000 := by
   rw [← bytesOf_size, hs]
   simp only [List.length_append, List.length_replicate]
   have : (if decide (q.num < 0) = true then [(45 : Int)] else []).length ≤ 1 := by split <;> decide
   omega
  rw [parS_of hs (by have := dgl_head (r := []) d1; rwa [List.append_nil] at this) hlen (parL_whole d1), tv_zn 0 (by omega)]
  have e : Rat.divInt (if decide (q.num < 0) = true then -(q.num.natAbs : Int) else q.num.natAbs) 1 = q := by
   rw [natAbs_sgn hm]
   conv => rhs; rw [← Rat.num_divInt_den q, h1]
   rfl
  rw [e, res_ok (hq.lg (by decide))]
 ·refine parS_quot (k := 0) (f := 1) hq hm (by decide) (by decide) (by decide) ?_
  rw [bytesOf_RT, rtx, if_neg h1, hx, tx_nonneg (by omega), Int.mul_one, Int.mul_one, List.append_assoc]
  rfl
theorem parS_dec (hq : Lq q 300) (hm : mi = true ∧ q.num ≤ 0 ∨ mi = false ∧ 0 ≤ q.num) (hk : k ≤ 9) {a b : List Int} (hab : a ++ b = List.replicate (k + 1 - (ntx q.num.natAbs).length) 48 ++ ntx q.num.natAbs) (hb : b.length = k)
  (hs : bytesOf s = (if mi = true then [45] else []) ++ (if k = 0 then a else a ++ 46 :: b)) : parS s = (RT (Rat.divInt q.num (10 ^ k)), 0) := by
 have hall := all_zn (k + 1 - (ntx q.num.natAbs).length) q.num.natAbs
 have htv := tv_zn (k + 1 - (ntx q.num.natAbs).length) (z := q.num.natAbs) (by omega)
 rw [← hab] at hall htv
 have l1 := ntx_len10 (z := q.num.natAbs) (k := 300) (by omega) (cast_lt hq.1) (by decide)
 have hlen := congrArg List.length hab
 rw [List.length_append, List.length_append, List.length_replicate, hb] at hlen
 rw [List.all_append, Bool.and_eq_true] at hall
 have da : dgl a = true := dgl_of hall.1 (fun e => by rw [e, List.length_nil] at hlen; omega)
 have hss : s.size ≤ 4000 := by
  rw [← bytesOf_size, hs]
  rw [List.length_append]
  have h1 : (if mi = true then [(45 : Int)] else []).length ≤ 1 := by cases mi <;> decide
  have h2 : (if k = 0 then a else a ++ 46 :: b).length ≤ a.length + b.length + 1 := by
   split
   ·omega
   ·rw [List.length_append, List.length_cons]; omega
  omega
 have hlq : lgq (Rat.divInt q.num (10 ^ k)) = false := by
  exact lgq_dec hq (by omega) (by decide) (by decide)
 by_cases h0 : k = 0
 ·subst h0
  obtain rfl : b = [] := List.eq_nil_of_length_eq_zero hb
  rw [List.append_nil] at htv
  rw [if_pos rfl] at hs
  rw [parS_of hs (by have := dgl_head (r := []) da; rwa [List.append_nil] at this) hss (parL_whole da), htv, natAbs_sgn hm]
  exact res_ok hlq
 ·have db : dgl b = true := dgl_of hall.2 (fun e => by rw [e] at hb; exact h0 hb.symm)
  rw [if_neg h0] at hs
  rw [parS_of hs (dgl_head da) hss (parL_dec da db), htv, hb, natAbs_sgn hm]
  exact res_ok hlq
end
attribute [local go_sem] max2_int min2_int max_two min_two max_three min_three max_four min_four
set_option linter.unusedVariables false
set_option linter.unusedSimpArgs false
def torusref02_trim.l0 : Nat → List Int → Option (List Int)
 |0, _ => none
 |k + 1, x0 => if (x0.length : Int) > 0 then (if 0 ≤ (wrap64 ((x0.length : Int) - 1)) then (if (wrap64 ((x0.length : Int) - 1)) < (x0.length : Int) then (if (rd x0 (wrap64 ((x0.length : Int) - 1))) = 0 then (if (wrap64 ((x0.length : Int) - 1)) ≤ (x0.length : Int) then (torusref02_trim.l0 k (x0.take ((wrap64 ((x0.length : Int) - 1)) : Int).toNat)) else (none)) else (some x0)) else (none)) else (none)) else (some x0)
def torusref02_trim.f (k : Nat) (l0 : List Int) : Option (List Int) := torusref02_trim.l0 k l0
theorem torusref02_trim.mono_l : ∀ k, (∀ y0, LeO (torusref02_trim.l0 k y0) (torusref02_trim.l0 (k + 1) y0))
 |0 => fun _ r h => by simp [torusref02_trim.l0] at h
 |k + 1 => by
  have ih0 := torusref02_trim.mono_l k
  ·intro y0
   unfold torusref02_trim.l0
   repeat' first
   |(with_reducible exact ih0 _)
   |(with_reducible exact LeO.refl _)
   |(with_reducible exact LeO.none _)
   |(with_reducible refine LeO.ite ?_ ?_)
   |(with_reducible refine LeO.bind ?_ (fun _ => ?_))
theorem torusref02_trim.mono : ∀ a0 k, LeO (torusref02_trim.f k a0) (torusref02_trim.f (k + 1) a0) := by
 intro a0 k
 have ih0 := torusref02_trim.mono_l k
 unfold torusref02_trim.f
 repeat' first
   |(with_reducible exact ih0 _)
   |(with_reducible exact LeO.refl _)
   |(with_reducible exact LeO.none _)
   |(with_reducible refine LeO.ite ?_ ?_)
   |(with_reducible refine LeO.bind ?_ (fun _ => ?_))
set_option maxHeartbeats 8000000 in
set_option maxRecDepth 100000 in
theorem torusref02_trim.calls (k : Nat) (P0_ : Nat → Prop) (A0 : Option Addr) (c0 : Nat) (l0 : List Int) (r : List Int) (w : World) (hs0 : Kd.V (Kd.int .i64) 3 w w.heap.size (fun k_ => P0_ k_) (.slice A0 l0.length c0) l0) (h : torusref02_trim.f k l0 = some r) :
  Calls Tryz.prog 188 #[.slice A0 l0.length c0] w fun e w' => ∃ v0_ : Value, e = .returned (v0_) ∧ Kd.V (Kd.int .i64) 3 w' w.heap.size (fun k_ => (P0_ k_ ∨ w.heap.size ≤ k_)) v0_ r ∧ Below w.heap.size w w' := by
 have HO0 := Aside0.mk (show Kd.V (Kd.int .i64) 3 w w.heap.size (fun k_ => (P0_ k_ ∨ w.heap.size ≤ k_)) (.slice A0 l0.length c0) l0 from Kd.V_mono hs0 (fun k_ hk => .inl hk))
 have HB := Aside0.mk (Below.refl w.heap.size w)
 have H : (torusref02_trim.l0 k l0) = some r := h
 clear h
 have H' := Aside0.mk H
 clear H
 go_enter Tryz.func188, Tryz.ntmps188
 go_wp2
 go_loopg [0] k (fun kq v0 w' => ∃ (x0_1 : List Int), Aside0 (torusref02_trim.l0 kq x0_1 = some r) ∧ Aside0 (kq ≤ k) ∧ Aside0 (Kd.V (Kd.int .i64) 3 w' w.heap.size (fun k_ => (P0_ k_ ∨ w.heap.size ≤ k_)) v0 x0_1) ∧ Aside0 (Below w.heap.size w w'))
 case atStart => exact ⟨(l0), H', ⟨Nat.le_refl _⟩, ⟨rVa_ HO0.out⟩, ⟨bw_⟩⟩
 case round =>
  clear H'
  try clear c1
  obtain ⟨x0_1, HA, HK1, HO_0, HB⟩ := hrel
  cases gk with
  |zero => exact absurd HA.out (by simp [torusref02_trim.l0])
  |succ k1 =>
   have H := HA.out
   clear HA
   simp only [torusref02_trim.l0] at H
   by_cases c2 : (x0_1.length : Int) > 0
   ·rw [if_pos c2] at H
    have c2b0 : decide (0 < (x0_1.length : Int)) = true := decide_eq_true c2
    have c2b1 : decide (0 < x0_1.length) = true := decide_eq_true (by omega)
    clear c2
    obtain ⟨ji3, hji3⟩ : ∃ j_ : Int, (wrap64 ((x0_1.length : Int) - 1)) = j_ := ⟨_, rfl⟩
    replace H : (if 0 ≤ (ji3) then (if (ji3) < (x0_1.length : Int) then (if (rd x0_1 (ji3)) = 0 then (if (ji3) ≤ (x0_1.length : Int) then (torusref02_trim.l0 k1 (x0_1.take ((ji3) : Int).toNat)) else (none)) else (some x0_1)) else (none)) else (none)) = some r := by first | (rw [hji3] at H; exact H) | (simp only [hji3] at H ⊢; exact H)
    have hji3w : (IntKind.i64.wrap ((x0_1.length : Int) - 1)) = ji3 := (i64_w _).trans hji3
    by_cases c4 : 0 ≤ (ji3)
    ·rw [if_pos c4] at H
     have c4b0 : decide (0 ≤ (ji3)) = true := decide_eq_true c4
     clear c4
     by_cases c5 : (ji3) < (x0_1.length : Int)
     ·rw [if_pos c5] at H
      have c5b0 : decide ((ji3) < (x0_1.length : Int)) = true := decide_eq_true c5
      clear c5
      by_cases c6 : (rd x0_1 (ji3)) = 0
      ·rw [if_pos c6] at H
       have c6b0 : ((rd x0_1 (ji3)) == 0) = true := beq_iff_eq.mpr c6
       have c6b1 : ((rd x0_1 (ji3)) != 0) = false := bne_eq_false_iff_eq.mpr c6
       clear c6
       have c7b0 := eq_true (of_decide_eq_true as_ : 0 ≤ (ji3))
       by_cases c8 : (ji3) ≤ (x0_1.length : Int)
       ·rw [if_pos c8] at H
        have c8b0 := eq_true c8
        have c8b1 : decide ((ji3) ≤ (x0_1.length : Int)) = true := decide_eq_true c8
        clear c8
        obtain ⟨y473, hy473⟩ : ∃ y_ : List Int, y_ = (x0_1.take ((ji3) : Int).toNat) := ⟨_, rfl⟩
        replace H : (torusref02_trim.l0 k1 y473) = some r := by first | (rw [hy473]; with_reducible exact H) | (have H2_ := (Option.bind_some _ _).symm.trans H; rw [hy473]; with_reducible exact H2_) | (have H2_ := (Option.bind_some _ _).symm.trans H; with_reducible exact H2_) | with_reducible exact H | (rw [hy473]; exact H) | exact H
        have Ny473 := Aside0.mk hy473
        clear hy473
        have H' := Aside0.mk H
        clear H
        obtain ⟨Ao9, co9, eo9⟩ := Kd.V_slice HO_0.out
        subst eo9
        have p472 : 0 ≤ ((ji3) : Int) := of_decide_eq_true as_
        have q472 : (ji3) < (x0_1.length : Int) := of_decide_eq_true as_
        obtain ⟨ad472, e472, hx472_0⟩ := Kd.at_int (Kd.V_reads' HO_0.out).2.2 (ji3) p472 q472
        cases e472
        replace p472 := eq_true p472
        replace q472 := eq_true q472
        have q10 : ((ji3) : Int) ≤ ((x0_1.length : Int) : Int) := of_decide_eq_true as_
        obtain ⟨i010, hi010, _, hsz10, _⟩ := info_parts info3
        have hroom10 : x0_1.length ≤ co9 := (Kd.V_reads' HO_0.out).2.1
        have hC10 : Kd.F (Kd.int .i64) _ _ (some ad472) x0_1.length x0_1 := (Kd.V_at (base := w.heap.size) HO_0.out).2.2
        have hcut10 := cut_to (P := Tryz.prog) 146 3 .i64 Tryz.underlying146 hi010 (some ad472) x0_1.length co9 (ji3) (of_decide_eq_true as_) q10 hroom10
        have hr10 := Kd.F_take (m := ((ji3) : Int).toNat) hC10 (by omega)
        have hy10 : y473.length = ((ji3) : Int).toNat := (by rw [Ny473.out, List.length_take]; omega)
        rw [← Ny473.out] at hr10
        rw [← hy10] at hcut10
        have HO477 := Aside0.mk (show Kd.V (Kd.int .i64) 3 _ w.heap.size _ (.slice (some ad472) y473.length co9) y473 from Kd.V_mk (by omega) hr10)
        have HC477 := Aside0.mk (show y473.length ≤ co9 from by omega)
        clear hr10 hC10 hroom10 hi010 hsz10
        have KY10 := Aside0.mk hy10
        clear hy10
        replace q10 := eq_true q10
        go_wp2
        go_roundg k1
        case measure => have := HK1.out; omega
        case rel => exact ⟨(y473), H', ⟨by have := HK1.out; omega⟩, ⟨rVa_ HO477.out⟩, ⟨bw_⟩⟩
       ·rw [if_neg c8] at H
        exact absurd H (by simp)
      ·rw [if_neg c6] at H
       have c6b0 : ((rd x0_1 (ji3)) == 0) = false := beq_eq_false_iff_ne.mpr c6
       have c6b1 : ((rd x0_1 (ji3)) != 0) = true := bne_iff_ne.mpr c6
       obtain rfl := Option.some.inj H
       obtain ⟨Ao11, co11, eo11⟩ := Kd.V_slice HO_0.out
       subst eo11
       have p472 : 0 ≤ ((ji3) : Int) := of_decide_eq_true as_
       have q472 : (ji3) < (x0_1.length : Int) := of_decide_eq_true as_
       obtain ⟨ad472, e472, hx472_0⟩ := Kd.at_int (Kd.V_reads' HO_0.out).2.2 (ji3) p472 q472
       cases e472
       replace p472 := eq_true p472
       replace q472 := eq_true q472
       go_wp2
       go_ret
       exact ⟨_, by first | rfl | (simp [errW_none, errW_some] <;> rfl) | (simp only [← hji3]; first | rfl | (simp [errW_none, errW_some] <;> rfl)) | (simp [*, errW_none, errW_some] <;> rfl), rVa_ HO_0.out, bw_⟩
     ·rw [if_neg c5] at H
      exact absurd H (by simp)
    ·rw [if_neg c4] at H
     exact absurd H (by simp)
   ·rw [if_neg c2] at H
    have c2b0 : decide (0 < (x0_1.length : Int)) = false := decide_eq_false c2
    have c2b1 : decide (0 < x0_1.length) = false := decide_eq_false (by omega)
    clear c2
    obtain rfl := Option.some.inj H
    obtain ⟨Ao12, co12, eo12⟩ := Kd.V_slice HO_0.out
    subst eo12
    go_wp2
    go_ret
    exact ⟨_, by first | rfl | (simp [errW_none, errW_some] <;> rfl) | (simp [*, errW_none, errW_some] <;> rfl), rVa_ HO_0.out, bw_⟩
attribute [local go_sem] max2_int min2_int max_two min_two max_three min_three max_four min_four
set_option linter.unusedVariables false
set_option linter.unusedSimpArgs false
mutual
def torusref02_digits.j0 : Nat → ByteArray → Bool → Option (Bool × List Int)
 |0, _, _ => none
 |k + 1, x0, x4 => torusref02_digits.l0 k x0 x4 ([] : List Int) (wrap64 ((x0.size : Int) - 1))
def torusref02_digits.l0 : Nat → ByteArray → Bool → List Int → Int → Option (Bool × List Int)
 |0, _, _, _, _ => none
 |k + 1, x0, x4, x5, x6 => if x6 ≥ 0 then (if 0 ≤ x6 then (if x6 < (x0.size : Int) then (if (bt x0 x6) = 45 then (torusref02_digits.l0 k x0 x4 x5 (wrap64 (x6 - 1))) else (if x5.length < 17592186044416 then (torusref02_digits.l0 k x0 x4 (x5 ++ [wrap64 ((wrap64 (bt x0 x6)) - 48)]) (wrap64 (x6 - 1))) else (none))) else (none)) else (none)) else ((torusref02_trim.f k x5).bind fun t481 => (some (x4, t481)))
end
def torusref02_digits.f (k : Nat) (a0 : ByteArray) : Option (Bool × List Int) := if (a0.size : Int) > 0 then (if 0 < (a0.size : Int) then (torusref02_digits.j0 k a0 ((bt a0 0) == 45)) else (none)) else (torusref02_digits.j0 k a0 false)
set_option maxHeartbeats 8000000 in
set_option maxRecDepth 100000 in
theorem torusref02_digits.calls (k : Nat) (a0 : ByteArray) (r1 : Bool) (r2 : List Int) (w : World) (h : torusref02_digits.f k a0 = some (r1, r2)) :
  Calls Tryz.prog 156 #[.string a0] w fun e w' => ∃ v1_ : Value, e = .returned (.tuple #[.bool r1, v1_]) ∧ Kd.V (Kd.int .i64) 3 w' w.heap.size (fun k_ => (w.heap.size ≤ k_)) v1_ r2 ∧ Below w.heap.size w w' := by
 have HB := Aside0.mk (Below.refl w.heap.size w)
 have H : (if (a0.size : Int) > 0 then (if 0 < (a0.size : Int) then (torusref02_digits.j0 k a0 ((bt a0 0) == 45)) else (none)) else (torusref02_digits.j0 k a0 false)) = some (r1, r2) := h
 clear h
 have HC2 := Aside0.mk H
 clear H
 go_enter Tryz.func156, Tryz.ntmps156
 go_upto_region 1 with (fail)
 go_cut [4] (fun v4 wc => ∃ (kq : Nat) (x4_1 : Bool), v4 = .bool x4_1 ∧ Aside0 (torusref02_digits.j0 kq a0 x4_1 = some (r1, r2)) ∧ Aside0 (kq ≤ k) ∧ Aside0 (Below w.heap.size w wc))
 case first =>
  have H := HC2.out
  clear HC2
  by_cases c3 : (a0.size : Int) > 0
  ·rw [if_pos c3] at H
   have c3b0 : decide (0 < (a0.size : Int)) = true := decide_eq_true c3
   have c3b1 : decide (0 < a0.size) = true := decide_eq_true (by omega)
   clear c3
   (first | rw [c3b0] | (simp only [i64_w, i32_w]; rw [c3b0]) | skip)
   by_cases c4 : 0 < (a0.size : Int)
   ·rw [if_pos c4] at H
    have c4b0 : decide (0 < (a0.size : Int)) = true := decide_eq_true c4
    have c4b1 : decide (0 < a0.size) = true := decide_eq_true (by omega)
    clear c4
    have H' := Aside0.mk H
    clear H
    have p5 : 0 ≤ (0 : Int) := (by omega)
    have q5 : 0 < a0.size := (by have : (0 : Int) < (a0.size : Int) := of_decide_eq_true as_; omega)
    have hx5 : ∀ h : 0 < a0.size, ((a0[0]'h).toNat : Int) = bt a0 0 := bt_at a0 0
    clear p5
    have qi5 : (0 < (a0.size : Int)) = True := eq_true (of_decide_eq_true as_)
    replace q5 := eq_true q5
    go_wp2
    go_meet
    case rel => exact ⟨_, (((bt a0 0) == 45)), sd_, H', ⟨by first | omega | exact Nat.le_refl _⟩, ⟨bw_⟩⟩
   ·rw [if_neg c4] at H
    exact absurd H (by simp)
  ·rw [if_neg c3] at H
   have c3b0 : decide (0 < (a0.size : Int)) = false := decide_eq_false c3
   have c3b1 : decide (0 < a0.size) = false := decide_eq_false (by omega)
   clear c3
   (first | rw [c3b0] | (simp only [i64_w, i32_w]; rw [c3b0]) | skip)
   have H' := Aside0.mk H
   clear H
   go_wp2
   go_meet
   case rel => exact ⟨_, (false), sd_, H', ⟨by first | omega | exact Nat.le_refl _⟩, ⟨bw_⟩⟩
 case rest =>
  clear HC2
  try clear c1
  try clear p2
  try clear c3
  try clear c3b0
  try clear c3b1
  try clear c4
  try clear c4b0
  try clear c4b1
  try clear p5
  try clear q5
  try clear hx5
  try clear qi5
  try clear p5
  try clear q5
  obtain ⟨kq, x4_1, rfl, HA, HJ1, HB⟩ := hcut
  cases kq with
  |zero => exact absurd HA.out (by simp [torusref02_digits.j0])
  |succ kj1 =>
   have H := HA.out
   clear HA
   simp only [torusref02_digits.j0] at H
   have H' := Aside0.mk H
   clear H
   go_wp2
   go_loopg [5, 6] kj1 (fun kq v5 v6 w' => ∃ (x5_2 : List Int) (x6_2 : Int), v6 = .int .i64 x6_2 ∧ Aside0 (torusref02_digits.l0 kq a0 x4_1 x5_2 x6_2 = some (r1, r2)) ∧ Aside0 (kq ≤ kj1) ∧ Aside0 (Kd.R (Kd.int .i64) 3 w' w.heap.size (fun k_ => (w.heap.size ≤ k_)) v5 x5_2) ∧ Aside0 (Below w.heap.size w w'))
   case atStart => exact ⟨(([] : List Int)), (wrap64 ((a0.size : Int) - 1)), sd_, H', ⟨Nat.le_refl _⟩, ⟨by first | exact Kd.R_nil _ _ _ _ _ | exact Kd.N_nil _ _ _ _ _ | exact Kd.V_nil _ _ _ _ _ | exact Kd.Q_nil _ _ _ _ _ | exact Kd.S_nil _ _ _ _ _⟩, ⟨bw_⟩⟩
   case round =>
    clear H'
    try clear c1
    try clear p2
    try clear c3
    try clear c3b0
    try clear c3b1
    try clear c4
    try clear c4b0
    try clear c4b1
    try clear p5
    try clear q5
    try clear hx5
    try clear qi5
    try clear p2
    try clear p5
    try clear q5
    obtain ⟨x5_2, x6_2, rfl, HA, HK2, HO_5, HB⟩ := hrel
    cases gk with
    |zero => exact absurd HA.out (by simp [torusref02_digits.l0])
    |succ k2 =>
     have H := HA.out
     clear HA
     simp only [torusref02_digits.l0] at H
     by_cases c6 : x6_2 ≥ 0
     ·rw [if_pos c6] at H
      have c6b0 : decide (0 ≤ x6_2) = true := decide_eq_true c6
      clear c6
      by_cases c7 : 0 ≤ x6_2
      ·rw [if_pos c7] at H
       have c7b0 : decide (0 ≤ x6_2) = true := decide_eq_true c7
       clear c7
       by_cases c8 : x6_2 < (a0.size : Int)
       ·rw [if_pos c8] at H
        have c8b0 : decide (x6_2 < (a0.size : Int)) = true := decide_eq_true c8
        clear c8
        by_cases c10 : (bt a0 x6_2) = 45
        ·rw [if_pos c10] at H
         have c10b0 : ((bt a0 x6_2) == 45) = true := beq_iff_eq.mpr c10
         have c10b1 : ((bt a0 x6_2) != 45) = false := bne_eq_false_iff_eq.mpr c10
         clear c10
         have H' := Aside0.mk H
         clear H
         have p9 : 0 ≤ (x6_2 : Int) := of_decide_eq_true as_
         have q9 : x6_2 < (a0.size : Int) := of_decide_eq_true as_
         have hx9 := bt_at a0 x6_2
         replace p9 := eq_true p9
         replace q9 := eq_true q9
         go_wp2
         go_roundg k2
         case measure => have := HJ1.out; have := HK2.out; omega
         case rel => exact ⟨(x5_2), (wrap64 (x6_2 - 1)), sd_, H', ⟨by have := HJ1.out; have := HK2.out; omega⟩, ⟨rRa_ HO_5.out⟩, ⟨bw_⟩⟩
        ·rw [if_neg c10] at H
         have c10b0 : ((bt a0 x6_2) == 45) = false := beq_eq_false_iff_ne.mpr c10
         have c10b1 : ((bt a0 x6_2) != 45) = true := bne_iff_ne.mpr c10
         by_cases c12 : x5_2.length < 17592186044416
         ·rw [if_pos c12] at H
          have LMc12 := Aside0.mk c12
          clear c12
          obtain ⟨y478, hy478⟩ : ∃ y_ : List Int, y_ = (x5_2 ++ [wrap64 ((wrap64 (bt a0 x6_2)) - 48)]) := ⟨_, rfl⟩
          replace H : (torusref02_digits.l0 k2 a0 x4_1 y478 (wrap64 (x6_2 - 1))) = some (r1, r2) := by first | (rw [hy478]; with_reducible exact H) | (have H2_ := (Option.bind_some _ _).symm.trans H; rw [hy478]; with_reducible exact H2_) | (have H2_ := (Option.bind_some _ _).symm.trans H; with_reducible exact H2_) | with_reducible exact H | (rw [hy478]; exact H) | exact H
          have Ny478 := Aside0.mk hy478
          clear hy478
          have H' := Aside0.mk H
          clear H
          have p9 : 0 ≤ (x6_2 : Int) := of_decide_eq_true as_
          have q9 : x6_2 < (a0.size : Int) := of_decide_eq_true as_
          have hx9 := bt_at a0 x6_2
          replace p9 := eq_true p9
          replace q9 := eq_true q9
          have p11 : 0 ≤ (x6_2 : Int) := of_decide_eq_true as_
          have q11 : x6_2 < (a0.size : Int) := of_decide_eq_true as_
          have hx11 := bt_at a0 x6_2
          replace p11 := eq_true p11
          replace q11 := eq_true q11
          go_wp2_with (first | ((with_reducible refine gate_builtin (b := .append) (xs := #[.tmp 26, .tmp 32]) rfl ?_); at_builtin; refine Kd.R_append (Kd.int .i64) (w0 := w) w.heap.size rfl (.tmp 26) (.tmp 32) 146 3 (.int .i64 0) 8 rfl Tryz.underlying146 info3 rfl (by decide) (by omega) u5 x5_2 (wrap64 ((wrap64 (bt a0 x6_2)) - 48)) [.int .i64 (wrap64 ((wrap64 (bt a0 x6_2)) - 48))] (fun k_ => (w.heap.size ≤ k_)) (fun _ => False) rfl rfl ?aP (fun _ hk => hk.elim) ?aF ?aO ?aB ?aS ?aL ?_; (case aP => exact rfl); (case aB => exact bw_); (case aF => exact (fun k_ hk => (Nat.le_trans (below_size bw_) hk))); (case aO => exact (rRa_ HO_5.out)); (case aS => exact (below_size bw_)); (case aL => have := LMc12.out; omega); intro v479 w13 ho hb hg hat; rw [← Ny478.out] at ho; have n0_ := Aside0.mk (hb); have n1_ := Aside0.mk (ho); clear HB; clear HO_5; have HB := n0_; have HO480 := n1_; clear n0_ n1_; clear ho hb hg hat))
          go_roundg k2
          case measure => have := HJ1.out; have := HK2.out; omega
          case rel => exact ⟨(y478), (wrap64 (x6_2 - 1)), sd_, H', ⟨by have := HJ1.out; have := HK2.out; omega⟩, ⟨rRa_ HO480.out⟩, ⟨bw_⟩⟩
         ·rw [if_neg c12] at H
          exact absurd H (by simp)
       ·rw [if_neg c8] at H
        exact absurd H (by simp)
      ·rw [if_neg c7] at H
       exact absurd H (by simp)
     ·rw [if_neg c6] at H
      have c6b0 : decide (0 ≤ x6_2) = false := decide_eq_false c6
      clear c6
      replace H := Option.bind_eq_some_iff.mp H
      obtain ⟨t481, A140, H⟩ := H
      replace H : (some (x4_1, t481)) = some (r1, r2) := H
      have A14 := Aside0.mk A140
      clear A140
      simp only [Option.some.injEq, Prod.mk.injEq] at H
      obtain ⟨rfl, rfl⟩ := H
      obtain ⟨Ao15, co15, eo15⟩ := Kd.R_slice HO_5.out
      subst eo15
      go_wp2_with (first | ((with_reducible refine gate_callee (f := 188) rfl ?_); refine goesL_ (some 36) rfl rfl Tryz.func188 (by kernel_rfl) rfl #[.slice Ao15 x5_2.length co15] rfl ag_ ?_; (with_reducible refine (torusref02_trim.calls k2 (fun k_ => some k_ = (.slice Ao15 x5_2.length co15 : Value).ownBlock) _ _ x5_2 t481 _ ?side1 A14.out).mono ?_); (case side1 => exact Kd.R_V (Kd.R_tight rfl (HO_5.out))); rintro e w16 ⟨v482, rfl, ho0, hb⟩; refine ⟨_, rfl, ?_⟩; have n0_ := Aside0.mk (Kd.R_below (rRa_ HO_5.out) hb); have n1_ := Aside0.mk (Kd.V_lower (Kd.V_mono (ok' := fun k_ => (w.heap.size ≤ k_)) ho0 (fun k_ hk_ => Or.elim hk_ (fun hs_ => ((HO_5.out).1 k_ hs_.symm)) (fun hn_ => (Nat.le_trans (below_size bw_) hn_)))) (below_size bw_)); have n2_ := Aside0.mk (below_step bw_ hb); clear HO_5; clear HB; have HO_5 := n0_; have HO483 := n1_; have HB := n2_; clear n0_ n1_ n2_; (try clear hb); (try clear hb2); (try clear hk); (try clear hi); (try clear ho0)))
      go_ret2
      exact ⟨_, by first | rfl | (simp [errW_none, errW_some] <;> rfl) | (simp [*, errW_none, errW_some] <;> rfl), rVa_ HO483.out, bw_⟩
attribute [local go_sem] max2_int min2_int max_two min_two max_three min_three max_four min_four
set_option linter.unusedVariables false
set_option linter.unusedSimpArgs false
mutual
def torusref02_text.j0 : Nat → List Int → List Int → Option (ByteArray)
 |0, _, _ => none
 |k + 1, x1, x5 => torusref02_text.l0 k x1 x5 (wrap64 ((x1.length : Int) - 1))
def torusref02_text.l0 : Nat → List Int → List Int → Int → Option (ByteArray)
 |0, _, _, _ => none
 |k + 1, x1, x5, x6 => if x6 ≥ 0 then (if 0 ≤ x6 then (if x6 < (x1.length : Int) then (if x5.length < 140737488355328 then (torusref02_text.l0 k x1 (x5 ++ [(wrap64 (48 + (rd x1 x6))) % 256]) (wrap64 (x6 - 1))) else (none)) else (none)) else (none)) else (some (strOfNums x5))
end
def torusref02_text.f (k : Nat) (a0 : Bool) (l1 : List Int) : Option (ByteArray) := (torusref02_trim.f k l1).bind fun t484 => (if (t484.length : Int) = 0 then (some (⟨#[48]⟩ : ByteArray)) else (if a0 = true then (if ([] : List Int).length < 140737488355328 then (torusref02_text.j0 k t484 (([] : List Int) ++ [45])) else (none)) else (torusref02_text.j0 k t484 ([] : List Int))))
set_option maxHeartbeats 8000000 in
set_option maxRecDepth 100000 in
theorem torusref02_text.calls (k : Nat) (a0 : Bool) (A1 : Option Addr) (c1 : Nat) (l1 : List Int) (r : ByteArray) (w : World) (hr1 : Kd.C (Kd.int .i64) w A1 l1.length l1) (hc1 : l1.length ≤ c1) (h : torusref02_text.f k a0 l1 = some r) :
  Calls Tryz.prog 157 #[.bool a0, .slice A1 l1.length c1] w fun e w' => e = .returned (.string r) ∧ Below w.heap.size w w' := by
 have HR1 := Aside0.mk hr1
 have HC1 := Aside0.mk hc1
 clear hr1 hc1
 have HB := Aside0.mk (Below.refl w.heap.size w)
 have H : ((torusref02_trim.f k l1).bind fun t484 => (if (t484.length : Int) = 0 then (some (⟨#[48]⟩ : ByteArray)) else (if a0 = true then (if ([] : List Int).length < 140737488355328 then (torusref02_text.j0 k t484 (([] : List Int) ++ [45])) else (none)) else (torusref02_text.j0 k t484 ([] : List Int))))) = some r := h
 clear h
 replace H := Option.bind_eq_some_iff.mp H
 obtain ⟨t484, A30, H⟩ := H
 have A3 := Aside0.mk A30
 clear A30
 by_cases c4 : (t484.length : Int) = 0
 ·rw [if_pos c4] at H
  have c4b0 : ((t484.length : Int) == 0) = true := beq_iff_eq.mpr c4
  have c4b1 : ((t484.length : Int) != 0) = false := bne_eq_false_iff_eq.mpr c4
  clear c4
  obtain rfl := Option.some.inj H
  go_enter Tryz.func157, Tryz.ntmps157
  go_wp2_with (first | ((with_reducible refine gate_callee (f := 188) rfl ?_); refine goesL_ (some 8) rfl rfl Tryz.func188 (by kernel_rfl) rfl #[.slice A1 l1.length c1] rfl ag_ ?_; (with_reducible refine (torusref02_trim.calls k (fun k_ => k_ < w.heap.size) _ _ l1 t484 _ ?side1 A3.out).mono ?_); (case side1 => exact Kd.V_mk HC1.out (Kd.F_below (Kd.C_F (Kd.heap_int .i64) HR1.out) bw_)); rintro e w5 ⟨v485, rfl, ho0, hb⟩; refine ⟨_, rfl, ?_⟩; have n0_ := Aside0.mk (Kd.V_lower (Kd.V_mono (ok' := fun k_ => True) ho0 (fun k_ hk_ => trivial)) (below_size bw_)); have n1_ := Aside0.mk (below_step bw_ hb); clear HB; have HO486 := n0_; have HB := n1_; clear n0_ n1_; (try clear hb); (try clear hb2); (try clear hk); (try clear hi); (try clear ho0); obtain ⟨Ao6, co6, eo6⟩ := Kd.V_slice HO486.out; subst eo6))
  go_ret
  exact ⟨by first | rfl | (simp [errW_none, errW_some] <;> rfl) | (simp [*, errW_none, errW_some] <;> rfl), bw_⟩
 ·rw [if_neg c4] at H
  have c4b0 : ((t484.length : Int) == 0) = false := beq_eq_false_iff_ne.mpr c4
  have c4b1 : ((t484.length : Int) != 0) = true := bne_iff_ne.mpr c4
  have c4b2 : ¬ (t484 = []) := fun h_ => c4 (by rw [h_]; rfl)
  have HC7 := Aside0.mk H
  clear H
  go_enter Tryz.func157, Tryz.ntmps157
  go_upto_if 12 with (first | ((with_reducible refine gate_callee (f := 188) rfl ?_); refine goesL_ (some 8) rfl rfl Tryz.func188 (by kernel_rfl) rfl #[.slice A1 l1.length c1] rfl ag_ ?_; (with_reducible refine (torusref02_trim.calls k (fun k_ => k_ < w.heap.size) _ _ l1 t484 _ ?side1 A3.out).mono ?_); (case side1 => exact Kd.V_mk HC1.out (Kd.F_below (Kd.C_F (Kd.heap_int .i64) HR1.out) bw_)); rintro e w8 ⟨v485, rfl, ho0, hb⟩; refine ⟨_, rfl, ?_⟩; have n0_ := Aside0.mk (Kd.V_lower (Kd.V_mono (ok' := fun k_ => True) ho0 (fun k_ hk_ => trivial)) (below_size bw_)); have n1_ := Aside0.mk (below_step bw_ hb); clear HB; have HO486 := n0_; have HB := n1_; clear n0_ n1_; (try clear hb); (try clear hb2); (try clear hk); (try clear hi); (try clear ho0); obtain ⟨Ao9, co9, eo9⟩ := Kd.V_slice HO486.out; subst eo9))
  (try simp only [Act.put, List.setIfInBounds_toArray, List.set_cons_zero, List.set_cons_succ])
  go_cut [5] (fun v5 wc => ∃ (kq : Nat) (x5_6 : List Int), Aside0 (torusref02_text.j0 kq t484 x5_6 = some r) ∧ Aside0 (kq ≤ k) ∧ Aside0 (Kd.V (Kd.int .i64) 3 wc w.heap.size (fun k_ => some k_ ≠ (v5 : Value).ownBlock) (.slice Ao9 t484.length co9) t484) ∧ Aside0 (Kd.R (Kd.int .u8) 5 wc w.heap.size (fun _ => True) v5 x5_6) ∧ Aside0 (Below w.heap.size w wc))
  case first =>
   have H := HC7.out
   clear HC7
   by_cases c10 : a0 = true
   ·subst c10
    rw [if_pos rfl] at H
    by_cases c11 : ([] : List Int).length < 140737488355328
    ·rw [if_pos c11] at H
     have LMc11 := Aside0.mk c11
     clear c11
     obtain ⟨y487, hy487⟩ : ∃ y_ : List Int, y_ = (([] : List Int) ++ [45]) := ⟨_, rfl⟩
     replace H : (torusref02_text.j0 k t484 y487) = some r := by first | (rw [hy487]; with_reducible exact H) | (have H2_ := (Option.bind_some _ _).symm.trans H; rw [hy487]; with_reducible exact H2_) | (have H2_ := (Option.bind_some _ _).symm.trans H; with_reducible exact H2_) | with_reducible exact H | (rw [hy487]; exact H) | exact H
     have Ny487 := Aside0.mk hy487
     clear hy487
     have H' := Aside0.mk H
     clear H
     go_wp2_with (first | ((with_reducible refine gate_builtin (b := .append) (xs := #[.tmp 13, .tmp 14]) rfl ?_); at_builtin; refine Kd.R_append (Kd.int .u8) (w0 := w) w.heap.size rfl (.tmp 13) (.tmp 14) 129 5 (.int .u8 0) 1 rfl Tryz.underlying129 info5 rfl (by decide) (by omega) (.slice none 0 0) ([] : List Int) 45 [.int .u8 45] (fun _ => True) (fun _ => False) rfl rfl ?aP (fun _ hk => hk.elim) ?aF ?aO ?aB ?aS ?aL ?_; (case aP => exact rfl); (case aB => exact bw_); (case aF => exact (fun _ _ => trivial)); (case aO => exact ((Kd.R_nil _ _ _ _ (fun _ => True)))); (case aS => exact (below_size bw_)); (case aL => have := LMc11.out; omega); intro v488 w12 ho hb hg hat; rw [← Ny487.out] at ho; have n0_ := Aside0.mk (Kd.V_afterv (Kd.V_apart_nil (rVa_ HO486.out)) hg hat); have n1_ := Aside0.mk (hb); have n2_ := Aside0.mk (ho); clear HO486; clear HB; have HO486 := n0_; have HB := n1_; have HO489 := n2_; clear n0_ n1_ n2_; clear ho hb hg hat))
     go_meet
     case rel => exact ⟨_, (y487), H', ⟨by first | omega | exact Nat.le_refl _⟩, ⟨by (with_reducible repeat (first | apply Kd.V_alloc | apply Kd.V_drewN | apply Kd.V_drew)); exact Kd.V_mono HO486.out (fun _ hk => hk.2)⟩, ⟨rRa_ HO489.out⟩, ⟨bw_⟩⟩
    ·rw [if_neg c11] at H
     exact absurd H (by simp)
   ·replace c10 := Bool.eq_false_iff.mpr c10
    subst c10
    rw [if_neg (show ¬ (false = true) by decide)] at H
    have H' := Aside0.mk H
    clear H
    go_wp2
    go_meet
    case rel => exact ⟨_, (([] : List Int)), H', ⟨by first | omega | exact Nat.le_refl _⟩, ⟨by (with_reducible repeat (first | apply Kd.V_alloc | apply Kd.V_drewN | apply Kd.V_drew)); exact Kd.V_mono HO486.out (fun _ hk => (by simp [Value.ownBlock]))⟩, ⟨by first | exact Kd.R_nil _ _ _ _ _ | exact Kd.N_nil _ _ _ _ _ | exact Kd.V_nil _ _ _ _ _ | exact Kd.Q_nil _ _ _ _ _ | exact Kd.S_nil _ _ _ _ _⟩, ⟨bw_⟩⟩
  case rest =>
   clear HC7
   try clear c1
   try clear p2
   try clear c4
   try clear c4b0
   try clear c4b1
   try clear c4b2
   try clear c10
   try clear c11
   obtain ⟨kq, x5_6, HA, HJ6, HO_1, HO_5, HB⟩ := hcut
   cases kq with
   |zero => exact absurd HA.out (by simp [torusref02_text.j0])
   |succ kj6 =>
    have H := HA.out
    clear HA
    simp only [torusref02_text.j0] at H
    have H' := Aside0.mk H
    clear H
    go_wp2
    go_loopg [5, 6] kj6 (fun kq v5 v6 w' => ∃ (x5_2 : List Int) (x6_2 : Int), v6 = .int .i64 x6_2 ∧ Aside0 (torusref02_text.l0 kq t484 x5_2 x6_2 = some r) ∧ Aside0 (kq ≤ kj6) ∧ Aside0 (Kd.V (Kd.int .i64) 3 w' w.heap.size (fun k_ => some k_ ≠ (v5 : Value).ownBlock) (.slice Ao9 t484.length co9) t484) ∧ Aside0 (Kd.R (Kd.int .u8) 5 w' w.heap.size (fun _ => True) v5 x5_2) ∧ Aside0 (Below w.heap.size w w'))
    case atStart => exact ⟨(x5_6), (wrap64 ((t484.length : Int) - 1)), sd_, H', ⟨Nat.le_refl _⟩, ⟨rVa_ HO_1.out⟩, ⟨rRa_ HO_5.out⟩, ⟨bw_⟩⟩
    case round =>
     clear H'
     try clear c1
     try clear p2
     try clear c4
     try clear c4b0
     try clear c4b1
     try clear c4b2
     try clear p6
     try clear c10
     try clear c11
     try clear p2
     obtain ⟨x5_2, x6_2, rfl, HA, HK2, HO_1, HO_5, HB⟩ := hrel
     cases gk with
     |zero => exact absurd HA.out (by simp [torusref02_text.l0])
     |succ k2 =>
      have H := HA.out
      clear HA
      simp only [torusref02_text.l0] at H
      by_cases c13 : x6_2 ≥ 0
      ·rw [if_pos c13] at H
       have c13b0 : decide (0 ≤ x6_2) = true := decide_eq_true c13
       clear c13
       by_cases c14 : 0 ≤ x6_2
       ·rw [if_pos c14] at H
        have c14b0 : decide (0 ≤ x6_2) = true := decide_eq_true c14
        clear c14
        by_cases c15 : x6_2 < (t484.length : Int)
        ·rw [if_pos c15] at H
         have c15b0 : decide (x6_2 < (t484.length : Int)) = true := decide_eq_true c15
         clear c15
         by_cases c16 : x5_2.length < 140737488355328
         ·rw [if_pos c16] at H
          have LMc16 := Aside0.mk c16
          clear c16
          obtain ⟨y491, hy491⟩ : ∃ y_ : List Int, y_ = (x5_2 ++ [(wrap64 (48 + (rd t484 x6_2))) % 256]) := ⟨_, rfl⟩
          replace H : (torusref02_text.l0 k2 t484 y491 (wrap64 (x6_2 - 1))) = some r := by first | (rw [hy491]; with_reducible exact H) | (have H2_ := (Option.bind_some _ _).symm.trans H; rw [hy491]; with_reducible exact H2_) | (have H2_ := (Option.bind_some _ _).symm.trans H; with_reducible exact H2_) | with_reducible exact H | (rw [hy491]; exact H) | exact H
          have Ny491 := Aside0.mk hy491
          clear hy491
          have H' := Aside0.mk H
          clear H
          have p490 : 0 ≤ (x6_2 : Int) := of_decide_eq_true as_
          have q490 : x6_2 < (t484.length : Int) := of_decide_eq_true as_
          obtain ⟨ad490, e490, hx490_0⟩ := Kd.at_int (Kd.V_reads' HO_1.out).2.2 x6_2 p490 q490
          cases e490
          replace p490 := eq_true p490
          replace q490 := eq_true q490
          go_wp2_with (first | ((with_reducible refine gate_builtin (b := .append) (xs := #[.tmp 23, .tmp 30]) rfl ?_); at_builtin; refine Kd.R_append (Kd.int .u8) (w0 := w) w.heap.size rfl (.tmp 23) (.tmp 30) 129 5 (.int .u8 0) 1 rfl Tryz.underlying129 info5 rfl (by decide) (by omega) u5 x5_2 ((wrap64 (48 + (rd t484 x6_2))) % 256) [.int .u8 ((wrap64 (48 + (rd t484 x6_2))) % 256)] (fun _ => True) (fun _ => False) rfl rfl ?aP (fun _ hk => hk.elim) ?aF ?aO ?aB ?aS ?aL ?_; (case aP => exact rfl); (case aB => exact bw_); (case aF => exact (fun _ _ => trivial)); (case aO => exact (rRa_ HO_5.out)); (case aS => exact (below_size bw_)); (case aL => have := LMc16.out; omega); intro v492 w17 ho hb hg hat; rw [← Ny491.out] at ho; have n0_ := Aside0.mk (Kd.V_afterv (ok := (fun _ => True)) (by (with_reducible repeat (first | apply Kd.V_alloc | apply Kd.V_drewN | apply Kd.V_drew)); exact Kd.V_mono HO_1.out (fun _ hk => ⟨trivial, hk⟩)) hg hat); have n1_ := Aside0.mk (hb); have n2_ := Aside0.mk (ho); clear HO_1; clear HB; clear HO_5; have HO_1 := n0_; have HB := n1_; have HO493 := n2_; clear n0_ n1_ n2_; clear ho hb hg hat))
          go_roundg k2
          case measure => have := HJ6.out; have := HK2.out; omega
          case rel => exact ⟨(y491), (wrap64 (x6_2 - 1)), sd_, H', ⟨by have := HJ6.out; have := HK2.out; omega⟩, ⟨by (with_reducible repeat (first | apply Kd.V_alloc | apply Kd.V_drewN | apply Kd.V_drew)); exact Kd.V_mono HO_1.out (fun _ hk => hk.2)⟩, ⟨rRa_ HO493.out⟩, ⟨bw_⟩⟩
         ·rw [if_neg c16] at H
          exact absurd H (by simp)
        ·rw [if_neg c15] at H
         exact absurd H (by simp)
       ·rw [if_neg c14] at H
        exact absurd H (by simp)
      ·rw [if_neg c13] at H
       have c13b0 : decide (0 ≤ x6_2) = false := decide_eq_false c13
       clear c13
       obtain rfl := Option.some.inj H
       have hcv18 := own_string (P := Tryz.prog) Tryz.underlying129 Tryz.underlying5 Tryz.underlying22 (Kd.own_of_R HO_5.out)
       go_wp2
       go_ret
       exact ⟨by first | rfl | (simp [errW_none, errW_some] <;> rfl) | (simp [*, errW_none, errW_some] <;> rfl), bw_⟩
attribute [local go_sem] max2_int min2_int max_two min_two max_three min_three max_four min_four
set_option linter.unusedVariables false
set_option linter.unusedSimpArgs false
def torusref02_Opposite.f (k : Nat) (a0 : ByteArray) : Option (ByteArray) := (torusref02_digits.f k a0).bind fun bt494 => ((torusref02_text.f k (!bt494.1) bt494.2).bind fun t498 => (some t498))
set_option maxHeartbeats 8000000 in
set_option maxRecDepth 100000 in
theorem torusref02_Opposite.calls (k : Nat) (a0 : ByteArray) (r : ByteArray) (w : World) (h : torusref02_Opposite.f k a0 = some r) :
  Calls Tryz.prog 91 #[.string a0] w fun e w' => e = .returned (.string r) ∧ Below w.heap.size w w' := by
 have HB := Aside0.mk (Below.refl w.heap.size w)
 have H : ((torusref02_digits.f k a0).bind fun bt494 => ((torusref02_text.f k (!bt494.1) bt494.2).bind fun t498 => (some t498))) = some r := h
 clear h
 replace H := Option.bind_eq_some_iff.mp H
 obtain ⟨⟨t494, t495⟩, A20, H⟩ := H
 dsimp only at H
 have A2 := Aside0.mk A20
 clear A20
 replace H := Option.bind_eq_some_iff.mp H
 obtain ⟨t498, A30, H⟩ := H
 have A3 := Aside0.mk A30
 clear A30
 obtain rfl := Option.some.inj H
 go_enter Tryz.func91, Tryz.ntmps91
 go_wp2_with (first | ((with_reducible refine gate_callee (f := 156) rfl ?_); refine goesL_ (some 7) rfl rfl Tryz.func156 (by kernel_rfl) rfl #[.string a0] rfl ag_ ?_; (with_reducible refine (torusref02_digits.calls k a0 t494 t495 _ A2.out).mono ?_); rintro e w4 ⟨v496, rfl, ho0, hb⟩; refine ⟨_, rfl, ?_⟩; have n0_ := Aside0.mk (Kd.V_lower (Kd.V_mono (ok' := fun k_ => True) ho0 (fun k_ hk_ => trivial)) (below_size bw_)); have n1_ := Aside0.mk (below_step bw_ hb); clear HB; have HO497 := n0_; have HB := n1_; clear n0_ n1_; (try clear hb); (try clear hb2); (try clear hk); (try clear hi); (try clear ho0); obtain ⟨Ao5, co5, eo5⟩ := Kd.V_slice HO497.out; subst eo5) | ((with_reducible refine gate_callee (f := 157) rfl ?_); refine goesL_ (some 13) rfl rfl Tryz.func157 (by kernel_rfl) rfl #[.bool (!t494), .slice Ao5 t495.length co5] rfl ag_ ?_; (with_reducible refine (torusref02_text.calls k (!t494) _ _ t495 t498 _ ?side1 ?side2 A3.out).mono ?_); (case side1 => repeat (first | exact (Kd.V_reads' HO497.out).2.2 | (with_reducible refine Kd.C_alloc ?_ _) | (with_reducible refine Kd.C_drewN ?_ _) | (with_reducible refine Kd.C_drew ?_))); (case side2 => exact (Kd.V_reads' HO497.out).2.1); rintro e w6 ⟨rfl, hb⟩; refine ⟨_, rfl, ?_⟩; have n0_ := Aside0.mk (Kd.V_below (rVa_ HO497.out) hb); have n1_ := Aside0.mk (below_step bw_ hb); clear HO497; clear HB; have HO497 := n0_; have HB := n1_; clear n0_ n1_; (try clear hb); (try clear hb2); (try clear hk); (try clear hi)))
 go_ret
 exact ⟨by first | rfl | (simp [errW_none, errW_some] <;> rfl) | (simp [*, errW_none, errW_some] <;> rfl), bw_⟩
attribute [local go_sem] max2_int min2_int max_two min_two max_three min_three max_four min_four
set_option linter.unusedVariables false
set_option linter.unusedSimpArgs false
def torusref02_size.l0 : Nat → List Int → List Int → Int → Option (Int)
 |0, _, _, _ => none
 |k + 1, x0, x1, x5 => if x5 ≥ 0 then (if 0 ≤ x5 then (if x5 < (x0.length : Int) then (if x5 < (x1.length : Int) then (if (rd x0 x5) < (rd x1 x5) then (some (-1)) else (if (rd x0 x5) > (rd x1 x5) then (some 1) else (torusref02_size.l0 k x0 x1 (wrap64 (x5 - 1))))) else (none)) else (none)) else (none)) else (some 0)
def torusref02_size.f (k : Nat) (l0 : List Int) (l1 : List Int) : Option (Int) := if (l0.length : Int) = (l1.length : Int) then (torusref02_size.l0 k l0 l1 (wrap64 ((l0.length : Int) - 1))) else (if (l0.length : Int) < (l1.length : Int) then (some (-1)) else (some 1))
set_option maxHeartbeats 8000000 in
set_option maxRecDepth 100000 in
theorem torusref02_size.calls (k : Nat) (A0 : Option Addr) (c0 : Nat) (l0 : List Int) (A1 : Option Addr) (c1 : Nat) (l1 : List Int) (r : Int) (w : World) (hr0 : Kd.C (Kd.int .i64) w A0 l0.length l0) (hc0 : l0.length ≤ c0) (hr1 : Kd.C (Kd.int .i64) w A1 l1.length l1) (hc1 : l1.length ≤ c1) (h : torusref02_size.f k l0 l1 = some r) :
  Calls Tryz.prog 165 #[.slice A0 l0.length c0, .slice A1 l1.length c1] w fun e w' => e = .returned (.int .i64 r) ∧ Drawn0 w w' := by
 have HR0 := Aside0.mk hr0
 have HC0 := Aside0.mk hc0
 clear hr0 hc0
 have HR1 := Aside0.mk hr1
 have HC1 := Aside0.mk hc1
 clear hr1 hc1
 have H : (if (l0.length : Int) = (l1.length : Int) then (torusref02_size.l0 k l0 l1 (wrap64 ((l0.length : Int) - 1))) else (if (l0.length : Int) < (l1.length : Int) then (some (-1)) else (some 1))) = some r := h
 clear h
 by_cases c3 : (l0.length : Int) = (l1.length : Int)
 ·rw [if_pos c3] at H
  have c3b0 : ((l0.length : Int) == (l1.length : Int)) = true := beq_iff_eq.mpr c3
  have c3b1 : ((l0.length : Int) != (l1.length : Int)) = false := bne_eq_false_iff_eq.mpr c3
  have c3b2 : (l0.length == l1.length) = true := by first | simpa using c3 | (simp at c3 ⊢; omega)
  clear c3
  have H' := Aside0.mk H
  clear H
  go_enter Tryz.func165, Tryz.ntmps165
  go_wp2
  repeat (go_quiet (fail); try go_wp2)
  go_loopg [5] k (fun kq v5 w' => ∃ (x5_1 : Int), v5 = .int .i64 x5_1 ∧ Aside0 (torusref02_size.l0 kq l0 l1 x5_1 = some r) ∧ Aside0 (kq ≤ k) ∧ Drawn0 w w')
  case atStart => exact ⟨(wrap64 ((l0.length : Int) - 1)), sd_, H', ⟨Nat.le_refl _⟩, dr_⟩
  case round =>
   clear H'
   try clear c1
   try clear p2
   try clear c3
   try clear c3b0
   try clear c3b1
   try clear c3b2
   obtain ⟨x5_1, rfl, HA, HK1, ⟨m1, rfl⟩⟩ := hrel
   cases gk with
   |zero => exact absurd HA.out (by simp [torusref02_size.l0])
   |succ k1 =>
    have H := HA.out
    clear HA
    simp only [torusref02_size.l0] at H
    by_cases c4 : x5_1 ≥ 0
    ·rw [if_pos c4] at H
     have c4b0 : decide (0 ≤ x5_1) = true := decide_eq_true c4
     clear c4
     by_cases c5 : 0 ≤ x5_1
     ·rw [if_pos c5] at H
      have c5b0 : decide (0 ≤ x5_1) = true := decide_eq_true c5
      clear c5
      by_cases c6 : x5_1 < (l0.length : Int)
      ·rw [if_pos c6] at H
       have c6b0 : decide (x5_1 < (l0.length : Int)) = true := decide_eq_true c6
       clear c6
       by_cases c7 : x5_1 < (l1.length : Int)
       ·rw [if_pos c7] at H
        have c7b0 : decide (x5_1 < (l1.length : Int)) = true := decide_eq_true c7
        clear c7
        by_cases c8 : (rd l0 x5_1) < (rd l1 x5_1)
        ·rw [if_pos c8] at H
         have c8b0 : decide ((rd l0 x5_1) < (rd l1 x5_1)) = true := decide_eq_true c8
         clear c8
         obtain rfl := Option.some.inj H
         have p506 : 0 ≤ (x5_1 : Int) := of_decide_eq_true as_
         have q506 : x5_1 < (l0.length : Int) := of_decide_eq_true as_
         obtain ⟨ad506, e506, hx506_0⟩ := Kd.at_int HR0.out x5_1 p506 q506
         cases e506
         replace p506 := eq_true p506
         replace q506 := eq_true q506
         have p507 : 0 ≤ (x5_1 : Int) := of_decide_eq_true as_
         have q507 : x5_1 < (l1.length : Int) := of_decide_eq_true as_
         obtain ⟨ad507, e507, hx507_0⟩ := Kd.at_int HR1.out x5_1 p507 q507
         cases e507
         replace p507 := eq_true p507
         replace q507 := eq_true q507
         go_wp2
         repeat (go_quiet (fail); try go_wp2)
         go_ret
         exact ⟨sd_, dr_⟩
        ·rw [if_neg c8] at H
         have c8b0 : decide ((rd l0 x5_1) < (rd l1 x5_1)) = false := decide_eq_false c8
         clear c8
         by_cases c9 : (rd l0 x5_1) > (rd l1 x5_1)
         ·rw [if_pos c9] at H
          have c9b0 : decide ((rd l1 x5_1) < (rd l0 x5_1)) = true := decide_eq_true c9
          clear c9
          obtain rfl := Option.some.inj H
          have p506 : 0 ≤ (x5_1 : Int) := of_decide_eq_true as_
          have q506 : x5_1 < (l0.length : Int) := of_decide_eq_true as_
          obtain ⟨ad506, e506, hx506_0⟩ := Kd.at_int HR0.out x5_1 p506 q506
          cases e506
          replace p506 := eq_true p506
          replace q506 := eq_true q506
          have p507 : 0 ≤ (x5_1 : Int) := of_decide_eq_true as_
          have q507 : x5_1 < (l1.length : Int) := of_decide_eq_true as_
          obtain ⟨ad507, e507, hx507_0⟩ := Kd.at_int HR1.out x5_1 p507 q507
          cases e507
          replace p507 := eq_true p507
          replace q507 := eq_true q507
          have p508 : 0 ≤ (x5_1 : Int) := of_decide_eq_true as_
          have q508 : x5_1 < (l0.length : Int) := of_decide_eq_true as_
          obtain ⟨ad508, e508, hx508_0⟩ := Kd.at_int HR0.out x5_1 p508 q508
          obtain rfl : ad506 = ad508 := (by injection e508)
          replace p508 := eq_true p508
          replace q508 := eq_true q508
          have p509 : 0 ≤ (x5_1 : Int) := of_decide_eq_true as_
          have q509 : x5_1 < (l1.length : Int) := of_decide_eq_true as_
          obtain ⟨ad509, e509, hx509_0⟩ := Kd.at_int HR1.out x5_1 p509 q509
          obtain rfl : ad507 = ad509 := (by injection e509)
          replace p509 := eq_true p509
          replace q509 := eq_true q509
          go_wp2
          repeat (go_quiet (fail); try go_wp2)
          go_ret
          exact ⟨sd_, dr_⟩
         ·rw [if_neg c9] at H
          have c9b0 : decide ((rd l1 x5_1) < (rd l0 x5_1)) = false := decide_eq_false c9
          clear c9
          have H' := Aside0.mk H
          clear H
          have p506 : 0 ≤ (x5_1 : Int) := of_decide_eq_true as_
          have q506 : x5_1 < (l0.length : Int) := of_decide_eq_true as_
          obtain ⟨ad506, e506, hx506_0⟩ := Kd.at_int HR0.out x5_1 p506 q506
          cases e506
          replace p506 := eq_true p506
          replace q506 := eq_true q506
          have p507 : 0 ≤ (x5_1 : Int) := of_decide_eq_true as_
          have q507 : x5_1 < (l1.length : Int) := of_decide_eq_true as_
          obtain ⟨ad507, e507, hx507_0⟩ := Kd.at_int HR1.out x5_1 p507 q507
          cases e507
          replace p507 := eq_true p507
          replace q507 := eq_true q507
          have p508 : 0 ≤ (x5_1 : Int) := of_decide_eq_true as_
          have q508 : x5_1 < (l0.length : Int) := of_decide_eq_true as_
          obtain ⟨ad508, e508, hx508_0⟩ := Kd.at_int HR0.out x5_1 p508 q508
          obtain rfl : ad506 = ad508 := (by injection e508)
          replace p508 := eq_true p508
          replace q508 := eq_true q508
          have p509 : 0 ≤ (x5_1 : Int) := of_decide_eq_true as_
          have q509 : x5_1 < (l1.length : Int) := of_decide_eq_true as_
          obtain ⟨ad509, e509, hx509_0⟩ := Kd.at_int HR1.out x5_1 p509 q509
          obtain rfl : ad507 = ad509 := (by injection e509)
          replace p509 := eq_true p509
          replace q509 := eq_true q509
          go_wp2
          repeat (go_quiet (fail); try go_wp2)
          go_roundg k1
          case measure => have := HK1.out; omega
          case rel => exact ⟨(wrap64 (x5_1 - 1)), sd_, H', ⟨by have := HK1.out; omega⟩, dr_⟩
       ·rw [if_neg c7] at H
        exact absurd H (by simp)
      ·rw [if_neg c6] at H
       exact absurd H (by simp)
     ·rw [if_neg c5] at H
      exact absurd H (by simp)
    ·rw [if_neg c4] at H
     have c4b0 : decide (0 ≤ x5_1) = false := decide_eq_false c4
     clear c4
     obtain rfl := Option.some.inj H
     go_wp2
     repeat (go_quiet (fail); try go_wp2)
     go_ret
     exact ⟨sd_, dr_⟩
 ·rw [if_neg c3] at H
  have c3b0 : ((l0.length : Int) == (l1.length : Int)) = false := beq_eq_false_iff_ne.mpr c3
  have c3b1 : ((l0.length : Int) != (l1.length : Int)) = true := bne_iff_ne.mpr c3
  have c3b2 : (l0.length == l1.length) = false := by first | simpa using c3 | (simp at c3 ⊢; omega)
  by_cases c10 : (l0.length : Int) < (l1.length : Int)
  ·rw [if_pos c10] at H
   have c10b0 : decide ((l0.length : Int) < (l1.length : Int)) = true := decide_eq_true c10
   have c10b1 : decide (l0.length < l1.length) = true := decide_eq_true (Int.ofNat_lt.mp c10)
   clear c10
   obtain rfl := Option.some.inj H
   go_enter Tryz.func165, Tryz.ntmps165
   go_wp2
   repeat (go_quiet (fail); try go_wp2)
   go_ret
   exact ⟨sd_, dr_⟩
  ·rw [if_neg c10] at H
   have c10b0 : decide ((l0.length : Int) < (l1.length : Int)) = false := decide_eq_false c10
   have c10b1 : decide (l0.length < l1.length) = false := decide_eq_false (fun h => c10 (Int.ofNat_lt.mpr h))
   clear c10
   obtain rfl := Option.some.inj H
   go_enter Tryz.func165, Tryz.ntmps165
   go_wp2
   repeat (go_quiet (fail); try go_wp2)
   go_ret
   exact ⟨sd_, dr_⟩
attribute [local go_sem] max2_int min2_int max_two min_two max_three min_three max_four min_four
set_option linter.unusedVariables false
set_option linter.unusedSimpArgs false
def torusref02_Compare.f (k : Nat) (a0 : ByteArray) (a1 : ByteArray) : Option (Int) := (torusref02_digits.f k a0).bind fun bt510 => ((torusref02_digits.f k a1).bind fun bt514 => (if (bt510.1 != bt514.1) = true then (if bt510.1 = true then (some (-1)) else (some 1)) else (if bt510.1 = true then ((torusref02_size.f k bt514.2 bt510.2).bind fun t518 => (some t518)) else ((torusref02_size.f k bt510.2 bt514.2).bind fun t519 => (some t519)))))
set_option maxHeartbeats 8000000 in
set_option maxRecDepth 100000 in
theorem torusref02_Compare.calls (k : Nat) (a0 : ByteArray) (a1 : ByteArray) (r : Int) (w : World) (h : torusref02_Compare.f k a0 a1 = some r) :
  Calls Tryz.prog 128 #[.string a0, .string a1] w fun e w' => e = .returned (.int .i64 r) ∧ Below w.heap.size w w' := by
 have HB := Aside0.mk (Below.refl w.heap.size w)
 have H : ((torusref02_digits.f k a0).bind fun bt510 => ((torusref02_digits.f k a1).bind fun bt514 => (if (bt510.1 != bt514.1) = true then (if bt510.1 = true then (some (-1)) else (some 1)) else (if bt510.1 = true then ((torusref02_size.f k bt514.2 bt510.2).bind fun t518 => (some t518)) else ((torusref02_size.f k bt510.2 bt514.2).bind fun t519 => (some t519)))))) = some r := h
 clear h
 replace H := Option.bind_eq_some_iff.mp H
 obtain ⟨⟨t510, t511⟩, A30, H⟩ := H
 dsimp only at H
 have A3 := Aside0.mk A30
 clear A30
 replace H := Option.bind_eq_some_iff.mp H
 obtain ⟨⟨t514, t515⟩, A40, H⟩ := H
 dsimp only at H
 have A4 := Aside0.mk A40
 clear A40
 by_cases c5 : (t510 != t514) = true
 ·rw [if_pos c5] at H
  have c5b0 : (t510 != t514) = true := c5
  (try (have c5b1 : decide (t510 = t514) = false := by simpa using c5))
  (try (have c5b2 : (t510 == t514) = false := by simpa using c5))
  (try (have c5b3 : ¬ (t510 = t514) := by simpa using c5))
  clear c5
  by_cases c6 : t510 = true
  ·subst c6
   rw [if_pos rfl] at H
   obtain rfl := Option.some.inj H
   go_enter Tryz.func128, Tryz.ntmps128
   go_wp2_with (first | ((with_reducible refine gate_callee (f := 156) rfl ?_); refine goesL_ (some 11) rfl rfl Tryz.func156 (by kernel_rfl) rfl #[.string a0] rfl ag_ ?_; (with_reducible refine (torusref02_digits.calls k a0 true t511 _ A3.out).mono ?_); rintro e w7 ⟨v512, rfl, ho0, hb⟩; refine ⟨_, rfl, ?_⟩; have n0_ := Aside0.mk (Kd.V_lower (Kd.V_mono (ok' := fun k_ => True) ho0 (fun k_ hk_ => trivial)) (below_size bw_)); have n1_ := Aside0.mk (below_step bw_ hb); clear HB; have HO513 := n0_; have HB := n1_; clear n0_ n1_; (try clear hb); (try clear hb2); (try clear hk); (try clear hi); (try clear ho0); (try clear HO513)) | ((with_reducible refine gate_callee (f := 156) rfl ?_); refine goesL_ (some 16) rfl rfl Tryz.func156 (by kernel_rfl) rfl #[.string a1] rfl ag_ ?_; (with_reducible refine (torusref02_digits.calls k a1 t514 t515 _ A4.out).mono ?_); rintro e w8 ⟨v516, rfl, ho0, hb⟩; refine ⟨_, rfl, ?_⟩; have n0_ := Aside0.mk (Kd.V_lower (Kd.V_mono (ok' := fun k_ => True) ho0 (fun k_ hk_ => trivial)) (below_size bw_)); have n1_ := Aside0.mk (below_step bw_ hb); clear HB; have HO517 := n0_; have HB := n1_; clear n0_ n1_; (try clear hb); (try clear hb2); (try clear hk); (try clear hi); (try clear ho0)))
   go_ret
   exact ⟨by first | rfl | (simp [errW_none, errW_some] <;> rfl) | (simp [*, errW_none, errW_some] <;> rfl), bw_⟩
  ·replace c6 := Bool.eq_false_iff.mpr c6
   subst c6
   rw [if_neg (show ¬ (false = true) by decide)] at H
   obtain rfl := Option.some.inj H
   go_enter Tryz.func128, Tryz.ntmps128
   go_wp2_with (first | ((with_reducible refine gate_callee (f := 156) rfl ?_); refine goesL_ (some 11) rfl rfl Tryz.func156 (by kernel_rfl) rfl #[.string a0] rfl ag_ ?_; (with_reducible refine (torusref02_digits.calls k a0 false t511 _ A3.out).mono ?_); rintro e w9 ⟨v512, rfl, ho0, hb⟩; refine ⟨_, rfl, ?_⟩; have n0_ := Aside0.mk (Kd.V_lower (Kd.V_mono (ok' := fun k_ => True) ho0 (fun k_ hk_ => trivial)) (below_size bw_)); have n1_ := Aside0.mk (below_step bw_ hb); clear HB; have HO513 := n0_; have HB := n1_; clear n0_ n1_; (try clear hb); (try clear hb2); (try clear hk); (try clear hi); (try clear ho0); (try clear HO513)) | ((with_reducible refine gate_callee (f := 156) rfl ?_); refine goesL_ (some 16) rfl rfl Tryz.func156 (by kernel_rfl) rfl #[.string a1] rfl ag_ ?_; (with_reducible refine (torusref02_digits.calls k a1 t514 t515 _ A4.out).mono ?_); rintro e w10 ⟨v516, rfl, ho0, hb⟩; refine ⟨_, rfl, ?_⟩; have n0_ := Aside0.mk (Kd.V_lower (Kd.V_mono (ok' := fun k_ => True) ho0 (fun k_ hk_ => trivial)) (below_size bw_)); have n1_ := Aside0.mk (below_step bw_ hb); clear HB; have HO517 := n0_; have HB := n1_; clear n0_ n1_; (try clear hb); (try clear hb2); (try clear hk); (try clear hi); (try clear ho0)))
   go_ret
   exact ⟨by first | rfl | (simp [errW_none, errW_some] <;> rfl) | (simp [*, errW_none, errW_some] <;> rfl), bw_⟩
 ·rw [if_neg c5] at H
  have c5b0 : (t510 != t514) = false := by simpa using c5
  (try (have c5b1 : decide (t510 = t514) = true := by simpa using c5))
  (try (have c5b2 : (t510 == t514) = true := by simpa using c5))
  clear c5
  by_cases c11 : t510 = true
  ·subst c11
   rw [if_pos rfl] at H
   replace H := Option.bind_eq_some_iff.mp H
   obtain ⟨t518, A120, H⟩ := H
   have A12 := Aside0.mk A120
   clear A120
   obtain rfl := Option.some.inj H
   go_enter Tryz.func128, Tryz.ntmps128
   go_wp2_with (first | ((with_reducible refine gate_callee (f := 156) rfl ?_); refine goesL_ (some 11) rfl rfl Tryz.func156 (by kernel_rfl) rfl #[.string a0] rfl ag_ ?_; (with_reducible refine (torusref02_digits.calls k a0 true t511 _ A3.out).mono ?_); rintro e w13 ⟨v512, rfl, ho0, hb⟩; refine ⟨_, rfl, ?_⟩; have n0_ := Aside0.mk (Kd.V_lower (Kd.V_mono (ok' := fun k_ => True) ho0 (fun k_ hk_ => trivial)) (below_size bw_)); have n1_ := Aside0.mk (below_step bw_ hb); clear HB; have HO513 := n0_; have HB := n1_; clear n0_ n1_; (try clear hb); (try clear hb2); (try clear hk); (try clear hi); (try clear ho0)) | ((with_reducible refine gate_callee (f := 156) rfl ?_); refine goesL_ (some 16) rfl rfl Tryz.func156 (by kernel_rfl) rfl #[.string a1] rfl ag_ ?_; (with_reducible refine (torusref02_digits.calls k a1 t514 t515 _ A4.out).mono ?_); rintro e w14 ⟨v516, rfl, ho0, hb⟩; refine ⟨_, rfl, ?_⟩; have n0_ := Aside0.mk (Kd.V_below (rVa_ HO513.out) hb); have n1_ := Aside0.mk (Kd.V_lower (Kd.V_mono (ok' := fun k_ => True) ho0 (fun k_ hk_ => trivial)) (below_size bw_)); have n2_ := Aside0.mk (below_step bw_ hb); clear HO513; clear HB; have HO513 := n0_; have HO517 := n1_; have HB := n2_; clear n0_ n1_ n2_; (try clear hb); (try clear hb2); (try clear hk); (try clear hi); (try clear ho0); obtain ⟨Ao15, co15, eo15⟩ := Kd.V_slice HO517.out; subst eo15; obtain ⟨Ao16, co16, eo16⟩ := Kd.V_slice HO513.out; subst eo16) | ((with_reducible refine gate_callee (f := 165) rfl ?_); refine goesL_ (some 26) rfl rfl Tryz.func165 (by kernel_rfl) rfl #[.slice Ao15 t515.length co15, .slice Ao16 t511.length co16] rfl ag_ ?_; (with_reducible refine (torusref02_size.calls k _ _ t515 _ _ t511 t518 _ ?side1 ?side2 ?side3 ?side4 A12.out).mono ?_); (case side1 => repeat (first | exact (Kd.V_reads' HO517.out).2.2 | (with_reducible refine Kd.C_alloc ?_ _) | (with_reducible refine Kd.C_drewN ?_ _) | (with_reducible refine Kd.C_drew ?_))); (case side2 => exact (Kd.V_reads' HO517.out).2.1); (case side3 => repeat (first | exact (Kd.V_reads' HO513.out).2.2 | (with_reducible refine Kd.C_alloc ?_ _) | (with_reducible refine Kd.C_drewN ?_ _) | (with_reducible refine Kd.C_drew ?_))); (case side4 => exact (Kd.V_reads' HO513.out).2.1); rintro e w' ⟨rfl, ⟨nd, rfl⟩⟩; refine ⟨_, rfl, ?_⟩))
   go_ret
   exact ⟨by first | rfl | (simp [errW_none, errW_some] <;> rfl) | (simp [*, errW_none, errW_some] <;> rfl), bw_⟩
  ·replace c11 := Bool.eq_false_iff.mpr c11
   subst c11
   rw [if_neg (show ¬ (false = true) by decide)] at H
   replace H := Option.bind_eq_some_iff.mp H
   obtain ⟨t519, A170, H⟩ := H
   have A17 := Aside0.mk A170
   clear A170
   obtain rfl := Option.some.inj H
   go_enter Tryz.func128, Tryz.ntmps128
   go_wp2_with (first | ((with_reducible refine gate_callee (f := 156) rfl ?_); refine goesL_ (some 11) rfl rfl Tryz.func156 (by kernel_rfl) rfl #[.string a0] rfl ag_ ?_; (with_reducible refine (torusref02_digits.calls k a0 false t511 _ A3.out).mono ?_); rintro e w18 ⟨v512, rfl, ho0, hb⟩; refine ⟨_, rfl, ?_⟩; have n0_ := Aside0.mk (Kd.V_lower (Kd.V_mono (ok' := fun k_ => True) ho0 (fun k_ hk_ => trivial)) (below_size bw_)); have n1_ := Aside0.mk (below_step bw_ hb); clear HB; have HO513 := n0_; have HB := n1_; clear n0_ n1_; (try clear hb); (try clear hb2); (try clear hk); (try clear hi); (try clear ho0)) | ((with_reducible refine gate_callee (f := 156) rfl ?_); refine goesL_ (some 16) rfl rfl Tryz.func156 (by kernel_rfl) rfl #[.string a1] rfl ag_ ?_; (with_reducible refine (torusref02_digits.calls k a1 t514 t515 _ A4.out).mono ?_); rintro e w19 ⟨v516, rfl, ho0, hb⟩; refine ⟨_, rfl, ?_⟩; have n0_ := Aside0.mk (Kd.V_below (rVa_ HO513.out) hb); have n1_ := Aside0.mk (Kd.V_lower (Kd.V_mono (ok' := fun k_ => True) ho0 (fun k_ hk_ => trivial)) (below_size bw_)); have n2_ := Aside0.mk (below_step bw_ hb); clear HO513; clear HB; have HO513 := n0_; have HO517 := n1_; have HB := n2_; clear n0_ n1_ n2_; (try clear hb); (try clear hb2); (try clear hk); (try clear hi); (try clear ho0); obtain ⟨Ao20, co20, eo20⟩ := Kd.V_slice HO513.out; subst eo20; obtain ⟨Ao21, co21, eo21⟩ := Kd.V_slice HO517.out; subst eo21) | ((with_reducible refine gate_callee (f := 165) rfl ?_); refine goesL_ (some 29) rfl rfl Tryz.func165 (by kernel_rfl) rfl #[.slice Ao20 t511.length co20, .slice Ao21 t515.length co21] rfl ag_ ?_; (with_reducible refine (torusref02_size.calls k _ _ t511 _ _ t515 t519 _ ?side1 ?side2 ?side3 ?side4 A17.out).mono ?_); (case side1 => repeat (first | exact (Kd.V_reads' HO513.out).2.2 | (with_reducible refine Kd.C_alloc ?_ _) | (with_reducible refine Kd.C_drewN ?_ _) | (with_reducible refine Kd.C_drew ?_))); (case side2 => exact (Kd.V_reads' HO513.out).2.1); (case side3 => repeat (first | exact (Kd.V_reads' HO517.out).2.2 | (with_reducible refine Kd.C_alloc ?_ _) | (with_reducible refine Kd.C_drewN ?_ _) | (with_reducible refine Kd.C_drew ?_))); (case side4 => exact (Kd.V_reads' HO517.out).2.1); rintro e w' ⟨rfl, ⟨nd, rfl⟩⟩; refine ⟨_, rfl, ?_⟩))
   go_ret
   exact ⟨by first | rfl | (simp [errW_none, errW_some] <;> rfl) | (simp [*, errW_none, errW_some] <;> rfl), bw_⟩
attribute [local go_sem] max2_int min2_int max_two min_two max_three min_three max_four min_four
set_option linter.unusedVariables false
set_option linter.unusedSimpArgs false
def torusref02_Positive.f (k : Nat) (a0 : ByteArray) : Option (ByteArray) := (torusref02_digits.f k a0).bind fun bt520 => ((torusref02_text.f k false bt520.2).bind fun t524 => (some t524))
set_option maxHeartbeats 8000000 in
set_option maxRecDepth 100000 in
theorem torusref02_Positive.calls (k : Nat) (a0 : ByteArray) (r : ByteArray) (w : World) (h : torusref02_Positive.f k a0 = some r) :
  Calls Tryz.prog 98 #[.string a0] w fun e w' => e = .returned (.string r) ∧ Below w.heap.size w w' := by
 have HB := Aside0.mk (Below.refl w.heap.size w)
 have H : ((torusref02_digits.f k a0).bind fun bt520 => ((torusref02_text.f k false bt520.2).bind fun t524 => (some t524))) = some r := h
 clear h
 replace H := Option.bind_eq_some_iff.mp H
 obtain ⟨⟨t520, t521⟩, A20, H⟩ := H
 dsimp only at H
 have A2 := Aside0.mk A20
 clear A20
 replace H := Option.bind_eq_some_iff.mp H
 obtain ⟨t524, A30, H⟩ := H
 have A3 := Aside0.mk A30
 clear A30
 obtain rfl := Option.some.inj H
 go_enter Tryz.func98, Tryz.ntmps98
 go_wp2_with (first | ((with_reducible refine gate_callee (f := 156) rfl ?_); refine goesL_ (some 7) rfl rfl Tryz.func156 (by kernel_rfl) rfl #[.string a0] rfl ag_ ?_; (with_reducible refine (torusref02_digits.calls k a0 t520 t521 _ A2.out).mono ?_); rintro e w4 ⟨v522, rfl, ho0, hb⟩; refine ⟨_, rfl, ?_⟩; have n0_ := Aside0.mk (Kd.V_lower (Kd.V_mono (ok' := fun k_ => True) ho0 (fun k_ hk_ => trivial)) (below_size bw_)); have n1_ := Aside0.mk (below_step bw_ hb); clear HB; have HO523 := n0_; have HB := n1_; clear n0_ n1_; (try clear hb); (try clear hb2); (try clear hk); (try clear hi); (try clear ho0); obtain ⟨Ao5, co5, eo5⟩ := Kd.V_slice HO523.out; subst eo5) | ((with_reducible refine gate_callee (f := 157) rfl ?_); refine goesL_ (some 11) rfl rfl Tryz.func157 (by kernel_rfl) rfl #[.bool false, .slice Ao5 t521.length co5] rfl ag_ ?_; (with_reducible refine (torusref02_text.calls k false _ _ t521 t524 _ ?side1 ?side2 A3.out).mono ?_); (case side1 => repeat (first | exact (Kd.V_reads' HO523.out).2.2 | (with_reducible refine Kd.C_alloc ?_ _) | (with_reducible refine Kd.C_drewN ?_ _) | (with_reducible refine Kd.C_drew ?_))); (case side2 => exact (Kd.V_reads' HO523.out).2.1); rintro e w6 ⟨rfl, hb⟩; refine ⟨_, rfl, ?_⟩; have n0_ := Aside0.mk (Kd.V_below (rVa_ HO523.out) hb); have n1_ := Aside0.mk (below_step bw_ hb); clear HO523; clear HB; have HO523 := n0_; have HB := n1_; clear n0_ n1_; (try clear hb); (try clear hb2); (try clear hk); (try clear hi)))
 go_ret
 exact ⟨by first | rfl | (simp [errW_none, errW_some] <;> rfl) | (simp [*, errW_none, errW_some] <;> rfl), bw_⟩
attribute [local go_sem] max2_int min2_int max_two min_two max_three min_three max_four min_four
set_option linter.unusedVariables false
set_option linter.unusedSimpArgs false
mutual
def torusref02_Number.l0 : Nat → Int → List Int → Option (ByteArray)
 |0, _, _ => none
 |k + 1, x3, x5 => if x3 > 0 then (if x5.length < 17592186044416 then (torusref02_Number.l0 k (wrap64 (Int.tdiv x3 10)) (x5 ++ [Int.tmod x3 10])) else (none)) else ((torusref02_text.f k true x5).bind fun t531 => (some t531))
def torusref02_Number.l1 : Nat → Int → List Int → Option (ByteArray)
 |0, _, _ => none
 |k + 1, x0, x6 => if x0 > 0 then (if x6.length < 17592186044416 then (torusref02_Number.l1 k (wrap64 (Int.tdiv x0 10)) (x6 ++ [Int.tmod x0 10])) else (none)) else ((torusref02_text.f k false x6).bind fun t535 => (some t535))
end
def torusref02_Number.f (k : Nat) (a0 : Int) : Option (ByteArray) := if a0 < 0 then (if ([] : List Int).length < 17592186044416 then (torusref02_Number.l0 k (wrap64 (-(wrap64 (Int.tdiv a0 10)))) (([] : List Int) ++ [wrap64 (-(Int.tmod a0 10))])) else (none)) else (torusref02_Number.l1 k a0 ([] : List Int))
set_option maxHeartbeats 8000000 in
set_option maxRecDepth 100000 in
theorem torusref02_Number.calls (k : Nat) (a0 : Int) (r : ByteArray) (w : World) (h : torusref02_Number.f k a0 = some r) :
  Calls Tryz.prog 109 #[.int .i64 a0] w fun e w' => e = .returned (.string r) ∧ Below w.heap.size w w' := by
 have HB := Aside0.mk (Below.refl w.heap.size w)
 have H : (if a0 < 0 then (if ([] : List Int).length < 17592186044416 then (torusref02_Number.l0 k (wrap64 (-(wrap64 (Int.tdiv a0 10)))) (([] : List Int) ++ [wrap64 (-(Int.tmod a0 10))])) else (none)) else (torusref02_Number.l1 k a0 ([] : List Int))) = some r := h
 clear h
 by_cases c2 : a0 < 0
 ·rw [if_pos c2] at H
  have c2b0 : decide (a0 < 0) = true := decide_eq_true c2
  clear c2
  by_cases c3 : ([] : List Int).length < 17592186044416
  ·rw [if_pos c3] at H
   have LMc3 := Aside0.mk c3
   clear c3
   obtain ⟨y525, hy525⟩ : ∃ y_ : List Int, y_ = (([] : List Int) ++ [wrap64 (-(Int.tmod a0 10))]) := ⟨_, rfl⟩
   replace H : (torusref02_Number.l0 k (wrap64 (-(wrap64 (Int.tdiv a0 10)))) y525) = some r := by first | (rw [hy525]; with_reducible exact H) | (have H2_ := (Option.bind_some _ _).symm.trans H; rw [hy525]; with_reducible exact H2_) | (have H2_ := (Option.bind_some _ _).symm.trans H; with_reducible exact H2_) | with_reducible exact H | (rw [hy525]; exact H) | exact H
   have Ny525 := Aside0.mk hy525
   clear hy525
   have H' := Aside0.mk H
   clear H
   go_enter Tryz.func109, Tryz.ntmps109
   go_wp2_with (first | ((with_reducible refine gate_builtin (b := .append) (xs := #[.tmp 14, .tmp 16]) rfl ?_); at_builtin; refine Kd.R_append (Kd.int .i64) (w0 := w) w.heap.size rfl (.tmp 14) (.tmp 16) 146 3 (.int .i64 0) 8 rfl Tryz.underlying146 info3 rfl (by decide) (by omega) (.slice none 0 0) ([] : List Int) (wrap64 (-(Int.tmod a0 10))) [.int .i64 (wrap64 (-(Int.tmod a0 10)))] (fun _ => True) (fun _ => False) rfl rfl ?aP (fun _ hk => hk.elim) ?aF ?aO ?aB ?aS ?aL ?_; (case aP => exact rfl); (case aB => exact bw_); (case aF => exact (fun _ _ => trivial)); (case aO => exact ((Kd.R_nil _ _ _ _ (fun _ => True)))); (case aS => exact (below_size bw_)); (case aL => have := LMc3.out; omega); intro v526 w4 ho hb hg hat; rw [← Ny525.out] at ho; have n0_ := Aside0.mk (hb); have n1_ := Aside0.mk (ho); clear HB; have HB := n0_; have HO527 := n1_; clear n0_ n1_; clear ho hb hg hat))
   go_loopg [3, 5] k (fun kq v3 v5 w' => ∃ (x3_1 : Int) (x5_1 : List Int), v3 = .int .i64 x3_1 ∧ Aside0 (torusref02_Number.l0 kq x3_1 x5_1 = some r) ∧ Aside0 (kq ≤ k) ∧ Aside0 (Kd.R (Kd.int .i64) 3 w' w.heap.size (fun _ => True) v5 x5_1) ∧ Aside0 (Below w.heap.size w w'))
   case atStart => exact ⟨(wrap64 (-(wrap64 (Int.tdiv a0 10)))), (y525), sd_, H', ⟨Nat.le_refl _⟩, ⟨rRa_ HO527.out⟩, ⟨bw_⟩⟩
   case round =>
    clear H'
    try clear c1
    try clear c2
    try clear c2b0
    try clear p2
    try clear c3
    obtain ⟨x3_1, x5_1, rfl, HA, HK1, HO_5, HB⟩ := hrel
    cases gk with
    |zero => exact absurd HA.out (by simp [torusref02_Number.l0])
    |succ k1 =>
     have H := HA.out
     clear HA
     simp only [torusref02_Number.l0] at H
     by_cases c5 : x3_1 > 0
     ·rw [if_pos c5] at H
      have c5b0 : decide (0 < x3_1) = true := decide_eq_true c5
      clear c5
      by_cases c6 : x5_1.length < 17592186044416
      ·rw [if_pos c6] at H
       have LMc6 := Aside0.mk c6
       clear c6
       obtain ⟨y528, hy528⟩ : ∃ y_ : List Int, y_ = (x5_1 ++ [Int.tmod x3_1 10]) := ⟨_, rfl⟩
       replace H : (torusref02_Number.l0 k1 (wrap64 (Int.tdiv x3_1 10)) y528) = some r := by first | (rw [hy528]; with_reducible exact H) | (have H2_ := (Option.bind_some _ _).symm.trans H; rw [hy528]; with_reducible exact H2_) | (have H2_ := (Option.bind_some _ _).symm.trans H; with_reducible exact H2_) | with_reducible exact H | (rw [hy528]; exact H) | exact H
       have Ny528 := Aside0.mk hy528
       clear hy528
       have H' := Aside0.mk H
       clear H
       go_wp2_with (first | ((with_reducible refine gate_builtin (b := .append) (xs := #[.tmp 24, .tmp 27]) rfl ?_); at_builtin; refine Kd.R_append (Kd.int .i64) (w0 := w) w.heap.size rfl (.tmp 24) (.tmp 27) 146 3 (.int .i64 0) 8 rfl Tryz.underlying146 info3 rfl (by decide) (by omega) u5 x5_1 (Int.tmod x3_1 10) [.int .i64 (Int.tmod x3_1 10)] (fun _ => True) (fun _ => False) rfl rfl ?aP (fun _ hk => hk.elim) ?aF ?aO ?aB ?aS ?aL ?_; (case aP => exact rfl); (case aB => exact bw_); (case aF => exact (fun _ _ => trivial)); (case aO => exact (rRa_ HO_5.out)); (case aS => exact (below_size bw_)); (case aL => have := LMc6.out; omega); intro v529 w7 ho hb hg hat; rw [← Ny528.out] at ho; have n0_ := Aside0.mk (hb); have n1_ := Aside0.mk (ho); clear HB; clear HO_5; have HB := n0_; have HO530 := n1_; clear n0_ n1_; clear ho hb hg hat))
       go_roundg k1
       case measure => have := HK1.out; omega
       case rel => exact ⟨(wrap64 (Int.tdiv x3_1 10)), (y528), sd_, H', ⟨by have := HK1.out; omega⟩, ⟨rRa_ HO530.out⟩, ⟨bw_⟩⟩
      ·rw [if_neg c6] at H
       exact absurd H (by simp)
     ·rw [if_neg c5] at H
      have c5b0 : decide (0 < x3_1) = false := decide_eq_false c5
      clear c5
      replace H := Option.bind_eq_some_iff.mp H
      obtain ⟨t531, A80, H⟩ := H
      have A8 := Aside0.mk A80
      clear A80
      obtain rfl := Option.some.inj H
      obtain ⟨Ao9, co9, eo9⟩ := Kd.R_slice HO_5.out
      subst eo9
      go_wp2_with (first | ((with_reducible refine gate_callee (f := 157) rfl ?_); refine goesL_ (some 30) rfl rfl Tryz.func157 (by kernel_rfl) rfl #[.bool true, .slice Ao9 x5_1.length co9] rfl ag_ ?_; (with_reducible refine (torusref02_text.calls k1 true _ _ x5_1 t531 _ ?side1 ?side2 A8.out).mono ?_); (case side1 => repeat (first | exact (Kd.R_reads' HO_5.out).2.2 | (with_reducible refine Kd.C_alloc ?_ _) | (with_reducible refine Kd.C_drewN ?_ _) | (with_reducible refine Kd.C_drew ?_))); (case side2 => exact (Kd.R_reads' HO_5.out).2.1); rintro e w10 ⟨rfl, hb⟩; refine ⟨_, rfl, ?_⟩; have n0_ := Aside0.mk (Kd.R_below (rRa_ HO_5.out) hb); have n1_ := Aside0.mk (below_step bw_ hb); clear HO_5; clear HB; have HO_5 := n0_; have HB := n1_; clear n0_ n1_; (try clear hb); (try clear hb2); (try clear hk); (try clear hi)))
      go_ret
      exact ⟨by first | rfl | (simp [errW_none, errW_some] <;> rfl) | (simp [*, errW_none, errW_some] <;> rfl), bw_⟩
  ·rw [if_neg c3] at H
   exact absurd H (by simp)
 ·rw [if_neg c2] at H
  have c2b0 : decide (a0 < 0) = false := decide_eq_false c2
  clear c2
  have H' := Aside0.mk H
  clear H
  go_enter Tryz.func109, Tryz.ntmps109
  go_wp2
  go_loopg [0, 6] k (fun kq v0 v6 w' => ∃ (x0_1 : Int) (x6_1 : List Int), v0 = .int .i64 x0_1 ∧ Aside0 (torusref02_Number.l1 kq x0_1 x6_1 = some r) ∧ Aside0 (kq ≤ k) ∧ Aside0 (Kd.R (Kd.int .i64) 3 w' w.heap.size (fun _ => True) v6 x6_1) ∧ Aside0 (Below w.heap.size w w'))
  case atStart => exact ⟨(a0), (([] : List Int)), sd_, H', ⟨Nat.le_refl _⟩, ⟨by first | exact Kd.R_nil _ _ _ _ _ | exact Kd.N_nil _ _ _ _ _ | exact Kd.V_nil _ _ _ _ _ | exact Kd.Q_nil _ _ _ _ _ | exact Kd.S_nil _ _ _ _ _⟩, ⟨bw_⟩⟩
  case round =>
   clear H'
   try clear c1
   try clear c2
   try clear c2b0
   try clear p2
   try clear c3
   try clear c5
   try clear c5b0
   try clear c6
   try clear p6
   try clear c10
   try clear p2
   obtain ⟨x0_1, x6_1, rfl, HA, HK1, HO_6, HB⟩ := hrel
   cases gk with
   |zero => exact absurd HA.out (by simp [torusref02_Number.l1])
   |succ k1 =>
    have H := HA.out
    clear HA
    simp only [torusref02_Number.l1] at H
    by_cases c11 : x0_1 > 0
    ·rw [if_pos c11] at H
     have c11b0 : decide (0 < x0_1) = true := decide_eq_true c11
     clear c11
     by_cases c12 : x6_1.length < 17592186044416
     ·rw [if_pos c12] at H
      have LMc12 := Aside0.mk c12
      clear c12
      obtain ⟨y532, hy532⟩ : ∃ y_ : List Int, y_ = (x6_1 ++ [Int.tmod x0_1 10]) := ⟨_, rfl⟩
      replace H : (torusref02_Number.l1 k1 (wrap64 (Int.tdiv x0_1 10)) y532) = some r := by first | (rw [hy532]; with_reducible exact H) | (have H2_ := (Option.bind_some _ _).symm.trans H; rw [hy532]; with_reducible exact H2_) | (have H2_ := (Option.bind_some _ _).symm.trans H; with_reducible exact H2_) | with_reducible exact H | (rw [hy532]; exact H) | exact H
      have Ny532 := Aside0.mk hy532
      clear hy532
      have H' := Aside0.mk H
      clear H
      go_wp2_with (first | ((with_reducible refine gate_builtin (b := .append) (xs := #[.tmp 35, .tmp 38]) rfl ?_); at_builtin; refine Kd.R_append (Kd.int .i64) (w0 := w) w.heap.size rfl (.tmp 35) (.tmp 38) 146 3 (.int .i64 0) 8 rfl Tryz.underlying146 info3 rfl (by decide) (by omega) u6 x6_1 (Int.tmod x0_1 10) [.int .i64 (Int.tmod x0_1 10)] (fun _ => True) (fun _ => False) rfl rfl ?aP (fun _ hk => hk.elim) ?aF ?aO ?aB ?aS ?aL ?_; (case aP => exact rfl); (case aB => exact bw_); (case aF => exact (fun _ _ => trivial)); (case aO => exact (rRa_ HO_6.out)); (case aS => exact (below_size bw_)); (case aL => have := LMc12.out; omega); intro v533 w13 ho hb hg hat; rw [← Ny532.out] at ho; have n0_ := Aside0.mk (hb); have n1_ := Aside0.mk (ho); clear HB; clear HO_6; have HB := n0_; have HO534 := n1_; clear n0_ n1_; clear ho hb hg hat))
      go_roundg k1
      case measure => have := HK1.out; omega
      case rel => exact ⟨(wrap64 (Int.tdiv x0_1 10)), (y532), sd_, H', ⟨by have := HK1.out; omega⟩, ⟨rRa_ HO534.out⟩, ⟨bw_⟩⟩
     ·rw [if_neg c12] at H
      exact absurd H (by simp)
    ·rw [if_neg c11] at H
     have c11b0 : decide (0 < x0_1) = false := decide_eq_false c11
     clear c11
     replace H := Option.bind_eq_some_iff.mp H
     obtain ⟨t535, A140, H⟩ := H
     have A14 := Aside0.mk A140
     clear A140
     obtain rfl := Option.some.inj H
     obtain ⟨Ao15, co15, eo15⟩ := Kd.R_slice HO_6.out
     subst eo15
     go_wp2_with (first | ((with_reducible refine gate_callee (f := 157) rfl ?_); refine goesL_ (some 41) rfl rfl Tryz.func157 (by kernel_rfl) rfl #[.bool false, .slice Ao15 x6_1.length co15] rfl ag_ ?_; (with_reducible refine (torusref02_text.calls k1 false _ _ x6_1 t535 _ ?side1 ?side2 A14.out).mono ?_); (case side1 => repeat (first | exact (Kd.R_reads' HO_6.out).2.2 | (with_reducible refine Kd.C_alloc ?_ _) | (with_reducible refine Kd.C_drewN ?_ _) | (with_reducible refine Kd.C_drew ?_))); (case side2 => exact (Kd.R_reads' HO_6.out).2.1); rintro e w16 ⟨rfl, hb⟩; refine ⟨_, rfl, ?_⟩; have n0_ := Aside0.mk (Kd.R_below (rRa_ HO_6.out) hb); have n1_ := Aside0.mk (below_step bw_ hb); clear HO_6; clear HB; have HO_6 := n0_; have HB := n1_; clear n0_ n1_; (try clear hb); (try clear hb2); (try clear hk); (try clear hi)))
     go_ret
     exact ⟨by first | rfl | (simp [errW_none, errW_some] <;> rfl) | (simp [*, errW_none, errW_some] <;> rfl), bw_⟩
end Go.Proofs.YtfmcgammhfdfnaaGreatDoor.PRatio

