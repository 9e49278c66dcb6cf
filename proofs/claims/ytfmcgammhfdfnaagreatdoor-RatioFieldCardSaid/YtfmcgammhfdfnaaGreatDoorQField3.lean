/- Go functions as plain Lean functions, each with a proof that the Go code computes just that, and facts on them; conditions: those that each theorem states. -/
import Derived.Test.YtfmcgammhfdfnaaGreatDoorQField2
import Derived.Lib.Bytealg
import Derived.Lib.Strings
import Derived.Lib.Slices
import Derived.Lib.Walk
import Derived.Laws.Append
namespace Go.Proofs.YtfmcgammhfdfnaaGreatDoor.PRatio
open Go.RowKit Go.Proofs.YtfmcgammhfdfnaaGreatDoorW.PrintWords Go.Proofs.YtfmcgammhfdfnaaGreatDoorW.PrintLast Go.Proofs.YtfmcgammhfdfnaaGreatDoorW.PrintMore
set_option linter.unusedVariables false
set_option linter.unusedSimpArgs false
set_option maxHeartbeats 8000000
set_option maxRecDepth 100000
def cutm (s : ByteArray) : ByteArray × Bool := if (bytesOf s).head? = some 45 then (s.extract 1 s.size, true) else (s, false)
theorem bytesOf_len (s : ByteArray) : (bytesOf s).length = s.size := by
  unfold bytesOf
  rw [List.length_map, Array.length_toList]
  rfl
theorem cutm_ev (s : ByteArray) : strings_CutPrefix.f s ⟨#[45]⟩ = some (cutm s) := by
  have e1 : (⟨#[45]⟩ : ByteArray).size = 1 := rfl
  have hh : stringslite_HasPrefix.f s ⟨#[45]⟩ = some (decide ((bytesOf s).head? = some 45)) := by
    unfold stringslite_HasPrefix.f
    rw [e1]
    by_cases c : (s.size : Int) ≥ ((1 : Nat) : Int)
    · rw [if_pos c, if_pos (by decide), if_pos c]
      congr 1
      rw [ByteArray.toList_eq, ByteArray.toList_eq, ByteArray.data_extract]
      obtain ⟨⟨xs⟩⟩ := s
      cases xs with
      | nil => simp [ByteArray.size] at c
      | cons x r =>
        have : (Array.extract (x :: r).toArray 0 (((1 : Nat) : Int)).toNat).toList = [x] := by simp
        show ((Array.extract (x :: r).toArray 0 (((1 : Nat) : Int)).toNat).toList == [45]) = _
        rw [this]
        simp only [bytesOf, List.map_cons, List.head?_cons, Option.some.injEq]
        by_cases h : x = 45
        · subst h; rfl
        · have h2 : ¬ ((x.toNat : Int) = 45) := fun e => h (UInt8.toNat_inj.1 (by simpa using (by omega : x.toNat = 45)))
          rw [decide_eq_false h2]
          simp [h]
    · rw [if_neg c]
      have : s.size = 0 := by omega
      have hl := bytesOf_len s
      rw [this] at hl
      rw [List.eq_nil_of_length_eq_zero hl]
      rfl
  unfold strings_CutPrefix.f stringslite_CutPrefix.f cutm
  rw [hh, e1]
  by_cases c : (bytesOf s).head? = some 45
  · have hs : ((1 : Nat) : Int) ≤ (s.size : Int) := by
      have hl := bytesOf_len s
      rcases Nat.eq_zero_or_pos s.size with h | h
      · rw [h] at hl
        rw [List.eq_nil_of_length_eq_zero hl] at c
        cases c
      · omega
    have hs' : 1 ≤ s.size := by omega
    simp [c, hs']
    rw [if_pos (by omega)]
    rfl
  · simp [c]
theorem cutp_calls (W : World) (s : ByteArray) : Calls Tryz.prog 79 #[.string s, .string ⟨#[45]⟩] W fun e w' => Below W.heap.size W w' ∧ e = .returned (.tuple #[.string (cutm s).1, .bool (cutm s).2]) :=
  (strings_CutPrefix.calls s ⟨#[45]⟩ _ _ W (cutm_ev s)).mono fun e w' h => ⟨h.2.below, h.1⟩
def RZ (o : Option Int) (e : Ending) (w' : World) : Prop := ∃ b A n c, e = .returned (.tuple #[.agg #[.bool b, .slice A n c], .bool o.isSome]) ∧ Wh w' b (.slice A n c) (o.getD 0)
theorem isEmpty_iff (t : ByteArray) : t.toList.isEmpty = decide (t.size = 0) := by
  rw [ByteArray.toList_eq]
  have : t.size = t.data.toList.length := by rw [Array.length_toList]; rfl
  rw [this]
  cases t.data.toList <;> rfl
theorem byte0 (t : ByteArray) (h : 0 < t.size) : ((t[0]'h).toNat : Int) = rd (bytesOf t) 0 := by
  have h2 : 0 < (bytesOf t).length := by rw [bytesOf_len]; exact h
  have : rd (bytesOf t) 0 = (bytesOf t)[0] := by simp [rd, h2]
  rw [this]
  simp only [bytesOf, List.getElem_map, Array.getElem_toList]
  rfl
theorem RZ.no {W : World} : RZ none (.returned (.tuple #[.agg #[.bool false, .slice none 0 0], .bool false])) W := by
  exact ⟨false, none, 0, 0, rfl, Wh.zero W⟩
theorem cutm_spec {s t : ByteArray} {neg : Bool} (h : cutm s = (t, neg)) : bytesOf s = (if neg = true then [45] else []) ++ bytesOf t ∧ (neg = false → (bytesOf t).head? ≠ some 45) ∧ t.size ≤ s.size := by
  unfold cutm at h
  by_cases c : (bytesOf s).head? = some 45
  · rw [if_pos c] at h
    obtain ⟨rfl, rfl⟩ := Prod.mk.inj h
    have e : bytesOf (s.extract 1 s.size) = (bytesOf s).tail := by
      rw [bytesOf_extract, ← bytesOf_len s, List.take_length, List.drop_one]
    refine ⟨?_, fun h => (by cases h), ?_⟩
    · rw [if_pos rfl, e]
      cases hb : bytesOf s with
      | nil => rw [hb] at c; cases c
      | cons x r => rw [hb] at c; simp at c; subst c; rfl
    · rw [← bytesOf_len, e, ← bytesOf_len s, List.length_tail]
      omega
  · rw [if_neg c] at h
    obtain ⟨rfl, rfl⟩ := Prod.mk.inj h
    exact ⟨by simp, fun _ => c, Nat.le_refl _⟩
theorem head_rd {l : List Int} (h : 0 < l.length) : l.head? = some (rd l 0) := by
  cases l with
  | nil => simp at h
  | cons x r => rfl
theorem read_calls (W : World) (s : ByteArray) (hs : s.size ≤ 9000000000000) : Calls Tryz.prog 95 #[.string s] W fun e w' => Below W.heap.size W w' ∧ RZ (int? (bytesOf s)) e w' := by
  have E := Env.start W
  obtain ⟨t, neg, hc⟩ : ∃ t neg, cutm s = (t, neg) := ⟨_, _, rfl⟩
  have HC := Aside0.mk hc
  have HS := Aside0.mk hs
  clear hs hc
  have hbad : t.size = 0 ∨ (rd (bytesOf t) 0 = 48 ∧ (1 < t.size ∨ neg = true)) → int? (bytesOf s) = none := by
    intro hc
    have hs := cutm_spec HC.out
    rw [hs.1, int?_cut neg _ hs.2.1, if_pos]
    refine hc.elim (fun h => Or.inl (List.eq_nil_of_length_eq_zero (by rw [bytesOf_len]; exact h))) fun h => ?_
    rcases Nat.eq_zero_or_pos t.size with h0 | h0
    · exact Or.inl (List.eq_nil_of_length_eq_zero (by rw [bytesOf_len]; exact h0))
    · exact Or.inr ⟨by rw [head_rd (by rw [bytesOf_len]; exact h0), h.1], by rw [bytesOf_len]; exact h.2⟩
  have HBAD := Aside0.mk hbad
  clear hbad
  go_enter Tryz.func95, Tryz.ntmps95
  by_cases h0 : t.size = 0
  · have ht : t.toList.isEmpty = true := by rw [isEmpty_iff]; exact decide_eq_true h0
    have HN := Aside0.mk (HBAD.out (Or.inl h0))
    clear h0
    go_wp2_with (first | ((with_reducible first | refine gate_box (by rfl) ?_ | refine gate_alloc (by rfl) ?_); refine bx_ E ?_; clear E; intro gb wb E; have hc_ := E.cls; (repeat (obtain ⟨c_, f_, hc_⟩ := hc_)); clear hc_) | (go_at_call 79; refine env_call E (cutp_calls _ s) ?_; clear E; rintro e wc E rfl; rw [HC.out]; have hc_ := E.cls; (repeat (obtain ⟨c_, f_, hc_⟩ := hc_)); clear hc_) | ((with_reducible refine gate_stored (t := 77) (by rfl) ?_); refine st_ (fun ws hs_ => ?_); replace E := Env.pt2 hs_ E; clear hs_; have hc_ := E.cls; (repeat (obtain ⟨c_, f_, hc_⟩ := hc_)); clear hc_))
    refine bodyPost_ret (results_list (rs := [.cell _ 77, .tmp _]) rfl (by simp) (.cell _ _ _ (0, 0) _ rfl (by first | exact (E.bxs.at (i := 0) rfl).2.1 | exact (E.bxs.at (i := 1) rfl).2.1 | exact (E.bxs.at (i := 2) rfl).2.1 | exact (E.bxs.at (i := 3) rfl).2.1 | exact (E.bxs.at (i := 4) rfl).2.1 | exact (E.bxs.at (i := 5) rfl).2.1 | exact (E.bxs.at (i := 6) rfl).2.1 | exact (E.bxs.at (i := 7) rfl).2.1 | exact (E.bxs.at (i := 8) rfl).2.1 | exact (E.bxs.at (i := 9) rfl).2.1) Tryz.underlying77 rfl (by kernel_rfl) (.tmp .nil))) rfl ?_
    rw [HN.out]
    exact ⟨E.below, RZ.no⟩
  · have ht : t.toList.isEmpty = false := by rw [isEmpty_iff]; exact decide_eq_false h0
    have hpos : 0 < t.size := Nat.pos_of_ne_zero h0
    have hb0 := byte0 t hpos
    have hsz : decide (0 < t.size) = true := decide_eq_true hpos
    clear h0
    by_cases h48 : rd (bytesOf t) 0 = 48
    · have hz : (rd (bytesOf t) 0 == 48) = true := by rw [h48]; rfl
      by_cases h1 : (1 : Int) < (t.size : Int)
      · have hd : decide ((1 : Int) < (t.size : Int)) = true := decide_eq_true h1
        have HN := Aside0.mk (HBAD.out (Or.inr ⟨h48, Or.inl (by omega)⟩))
        clear h1 h48
        go_wp2_with (first | ((with_reducible first | refine gate_box (by rfl) ?_ | refine gate_alloc (by rfl) ?_); refine bx_ E ?_; clear E; intro gb wb E; have hc_ := E.cls; (repeat (obtain ⟨c_, f_, hc_⟩ := hc_)); clear hc_) | (go_at_call 79; refine env_call E (cutp_calls _ s) ?_; clear E; rintro e wc E rfl; rw [HC.out]; have hc_ := E.cls; (repeat (obtain ⟨c_, f_, hc_⟩ := hc_)); clear hc_) | ((with_reducible refine gate_stored (t := 77) (by rfl) ?_); refine st_ (fun ws hs_ => ?_); replace E := Env.pt2 hs_ E; clear hs_; have hc_ := E.cls; (repeat (obtain ⟨c_, f_, hc_⟩ := hc_)); clear hc_))
        refine bodyPost_ret (results_list (rs := [.cell _ 77, .tmp _]) rfl (by simp) (.cell _ _ _ (0, 0) _ rfl (by first | exact (E.bxs.at (i := 0) rfl).2.1 | exact (E.bxs.at (i := 1) rfl).2.1 | exact (E.bxs.at (i := 2) rfl).2.1 | exact (E.bxs.at (i := 3) rfl).2.1 | exact (E.bxs.at (i := 4) rfl).2.1 | exact (E.bxs.at (i := 5) rfl).2.1 | exact (E.bxs.at (i := 6) rfl).2.1 | exact (E.bxs.at (i := 7) rfl).2.1 | exact (E.bxs.at (i := 8) rfl).2.1 | exact (E.bxs.at (i := 9) rfl).2.1) Tryz.underlying77 rfl (by kernel_rfl) (.tmp .nil))) rfl ?_
        rw [HN.out]
        exact ⟨E.below, RZ.no⟩
      · have hd : decide ((1 : Int) < (t.size : Int)) = false := decide_eq_false h1
        cases neg
        case true =>
          have HN := Aside0.mk (HBAD.out (Or.inr ⟨h48, Or.inr rfl⟩))
          clear h1 h48
          go_wp2_with (first | ((with_reducible first | refine gate_box (by rfl) ?_ | refine gate_alloc (by rfl) ?_); refine bx_ E ?_; clear E; intro gb wb E; have hc_ := E.cls; (repeat (obtain ⟨c_, f_, hc_⟩ := hc_)); clear hc_) | (go_at_call 79; refine env_call E (cutp_calls _ s) ?_; clear E; rintro e wc E rfl; rw [HC.out]; have hc_ := E.cls; (repeat (obtain ⟨c_, f_, hc_⟩ := hc_)); clear hc_) | ((with_reducible refine gate_stored (t := 77) (by rfl) ?_); refine st_ (fun ws hs_ => ?_); replace E := Env.pt2 hs_ E; clear hs_; have hc_ := E.cls; (repeat (obtain ⟨c_, f_, hc_⟩ := hc_)); clear hc_))
          refine bodyPost_ret (results_list (rs := [.cell _ 77, .tmp _]) rfl (by simp) (.cell _ _ _ (0, 0) _ rfl (by first | exact (E.bxs.at (i := 0) rfl).2.1 | exact (E.bxs.at (i := 1) rfl).2.1 | exact (E.bxs.at (i := 2) rfl).2.1 | exact (E.bxs.at (i := 3) rfl).2.1 | exact (E.bxs.at (i := 4) rfl).2.1 | exact (E.bxs.at (i := 5) rfl).2.1 | exact (E.bxs.at (i := 6) rfl).2.1 | exact (E.bxs.at (i := 7) rfl).2.1 | exact (E.bxs.at (i := 8) rfl).2.1 | exact (E.bxs.at (i := 9) rfl).2.1) Tryz.underlying77 rfl (by kernel_rfl) (.tmp .nil))) rfl ?_
          rw [HN.out]
          exact ⟨E.below, RZ.no⟩
        case false =>
          have HG := Aside0.mk (show ¬ (bytesOf t = [] ∨ ((bytesOf t).head? = some 48 ∧ (1 < (bytesOf t).length ∨ false = true))) by
            rw [bytesOf_len]
            rintro (h | h)
            · have := bytesOf_len t; rw [h] at this; simp at this; omega
            · exact h.2.elim (fun h => h1 (by omega)) (fun h => by cases h))
          clear h1 h48
          go_wp2_with (first | ((with_reducible first | refine gate_box (by rfl) ?_ | refine gate_alloc (by rfl) ?_); refine bx_ E ?_; clear E; intro gb wb E; have hc_ := E.cls; (repeat (obtain ⟨c_, f_, hc_⟩ := hc_)); clear hc_) | (go_at_call 79; refine env_call E (cutp_calls _ s) ?_; clear E; rintro e wc E rfl; rw [HC.out]; have hc_ := E.cls; (repeat (obtain ⟨c_, f_, hc_⟩ := hc_)); clear hc_))
          (all_goals
          have E0 := Aside0.mk E
          have HB := Aside0.mk (Below.refl wc.heap.size wc)
          have HO := Aside0.mk (Kd.R_nil KU 145 wc wc.heap.size (fun _ => True))
          have RO0 := Aside0.mk (show RdOut (bytesOf t) [] (t.size : Int) t.size by have := RdOut.start (bytesOf t); rwa [bytesOf_len] at this)
          go_loopg [6, 7] t.size (fun kq v6 v7 w' => ∃ (d : List Int) (e : Int), v7 = .int .i64 e ∧ Aside0 (RdOut (bytesOf t) d e kq) ∧ Aside0 (Own32 wc w' v6 d) ∧ Aside0 (Below wc.heap.size wc w'))
          case atStart => exact ⟨_, _, rfl, RO0, HO, HB⟩
          case round =>
            clear HO HB E RO0
            obtain ⟨d, e, rfl, INV, HO, HB⟩ := hrel
            have E := E0.out.next HB.out
            have hc_ := E.cls; (repeat (obtain ⟨c_, f_, hc_⟩ := hc_)); clear hc_
            by_cases he : 0 < e
            · have heb : decide (0 < e) = true := decide_eq_true he
              have hle : e ≤ (t.size : Int) := by have := INV.out.1.1; rwa [bytesOf_len] at this
              have hw : wrap64 (e - 9) = e - 9 := by have := HS.out; have := (cutm_spec HC.out).2.2; rw [wrap_id (by omega) (by omega)]
              have f9 : max e 0 = e := by omega
              have hen : ((e.toNat : Nat) : Int) = e := by omega
              have f1 : (e - 9 ≤ e) = True := eq_true (by omega)
              have f2 : (e ≤ (t.size : Int)) = True := eq_true hle
              have f3 : (0 ≤ e) = True := eq_true (by omega)
              have kb := fun s W => print_bytes (P := Tryz.prog) 9 129 5 Tryz.underlying9 Tryz.underlying129 Tryz.underlying5 s W
              by_cases hm : 0 ≤ e - 9
              · have f4 : (0 ≤ e - 9) = True := eq_true hm
                have f5 : max 0 (e - 9) = e - 9 := by omega
                have f6 : (9 ≤ e) = True := eq_true (by omega)
                have f7 : (e < 9) = False := eq_false (by omega)
                have f8 : (e - 9 < 0) = False := eq_false (by omega)
                go_wp2
                · generalize hp : t.extract (e - 9).toNat e.toNat = p
                  generalize hn : e.toNat - (e - 9).toNat = n
                  (all_goals
                    have HP : bytesOf p = rpart (bytesOf t) e := by rw [← hp, bytesOf_extract]; unfold rpart; congr 1; omega
                    have hpl : (bytesOf p).length = n := by rw [bytesOf_len, ← hp, ByteArray.size_extract]; omega
                    have HPL := Aside0.mk hpl
                    have HPP := Aside0.mk HP
                    have HR := Aside0.mk (bytes_reads wr 5 p (by rw [← bytesOf_len, HP]; have := rpart_len (l := bytesOf t) (e := e); omega))
                    have HB2 := Aside0.mk (bytes_below HB.out HB.out.size 5 p)
                    have HO2 := Aside0.mk (Kd.R_below HO.out (bytes_below (Below.refl _ _) (Nat.le_refl _) 5 p))
                    have E2 := Aside0.mk (E0.out.next HB2.out)
                    have RI0 := Aside0.mk (show RdIn (bytesOf p) 0 0 (n + 1) by have := RdIn.start (ck := bytesOf p) (by rw [HP]; exact rpart_len); rwa [hpl] at this)
                    have hps : p.size = n := by rw [← bytesOf_len]; exact hpl
                    clear HP hpl
                    go_loopg [8, 46] (n + 1) (fun kq v8 v46 w' => ∃ (x j : Int), v8 = .int .u32 x ∧ v46 = .int .i64 j ∧ Aside0 (RdIn (bytesOf p) j x kq) ∧ w' = Lib.bytesWorld wr 5 p)
                    case atStart => exact ⟨0, 0, rfl, rfl, RI0, rfl⟩
                    case round =>
                      obtain ⟨x, j, rfl, rfl, INV2, rfl⟩ := hrel
                      have j0 : 0 ≤ j := INV2.out.1.1
                      by_cases hj : j < (n : Int)
                      · have hjb : decide (j < (n : Int)) = true := decide_eq_true hj
                        (try have hje : decide (j < e) = true := decide_eq_true (by omega))
                        (try have hje2 : (j < e) = True := eq_true (by omega))
                        have cJ : (Lib.bytesWorld wr 5 p).cell? ⟨wr.heap.size, j.toNat, none⟩ = some (.int .u8 (rd (bytesOf p) j)) := by
                          obtain ⟨ad, e1, hc⟩ := HR.out.2.2 (by omega)
                          cases e1
                          have := hc j.toNat (by omega)
                          rw [add_plain] at this
                          exact this
                        have hjl : j < ((bytesOf p).length : Int) := by rw [HPL.out]; exact hj
                        have hj3 : (0 ≤ j) = True := eq_true j0
                        have hj4 : (j < (n : Int)) = True := eq_true hj
                        have HJ := Aside0.mk hjl
                        have hxb := Aside0.mk INV2.out.lt
                        by_cases hd8 : isd (rd (bytesOf p) j) = true
                        · have hb8 := (isd_iff _).1 hd8
                          have hn2 := Aside0.mk (INV2.out.next hjl hd8)
                          have d1 : decide (rd (bytesOf p) j < 48) = false := decide_eq_false (by omega)
                          have d2 : decide (57 < rd (bytesOf p) j) = false := decide_eq_false (by omega)
                          have d3 : (rd (bytesOf p) j - 48) % 256 = rd (bytesOf p) j - 48 := Int.emod_eq_of_lt (by omega) (by omega)
                          clear hj hjl hb8
                          have d4 : (10 * x % 4294967296 + (rd (bytesOf p) j - 48)) % 4294967296 = 10 * x + (rd (bytesOf p) j - 48) := by have h1 := hxb.out; have h2 := hn2.out.2.lt; omega
                          go_wp2
                          rw [d4]
                          go_roundg ((((bytesOf p).length : Int) - j).toNat)
                          case measure => exact hn2.out.1
                          case rel => exact ⟨_, _, rfl, rfl, ⟨hn2.out.2⟩, rfl⟩
                        · have hf8 : isd (rd (bytesOf p) j) = false := by simpa using hd8
                          have hbp : (bytesOf t).all isd = false := rpart_bad (e := e) j.toNat (by rw [← HPP.out, HPL.out]; omega) (by rw [← HPP.out, show ((j.toNat : Nat) : Int) = j by omega]; exact hf8)
                          have hno := Aside0.mk (show int? (bytesOf s) = none by have hs := cutm_spec HC.out; rw [hs.1, int?_cut _ _ hs.2.1, if_neg HG.out, if_neg (by rw [hbp]; decide)])
                          have E := E2.out
                          have hc_ := E.cls; (repeat (obtain ⟨c_, f_, hc_⟩ := hc_)); clear hc_
                          clear hj hjl hbp
                          by_cases d0 : rd (bytesOf p) j < 48
                          · have d1 : decide (rd (bytesOf p) j < 48) = true := decide_eq_true d0
                            clear d0
                            go_wp2_with (first | ((with_reducible refine gate_stored (t := 77) (by rfl) ?_); refine st_ (fun ws hs_ => ?_); replace E := Env.pt2 hs_ E; clear hs_; have hc_ := E.cls; (repeat (obtain ⟨c_, f_, hc_⟩ := hc_)); clear hc_))
                            refine bodyPost_ret (results_list (rs := [.cell _ 77, .tmp _]) rfl (by simp) (.cell _ _ _ (0, 0) _ rfl (by first | exact (E.bxs.at (i := 0) rfl).2.1 | exact (E.bxs.at (i := 1) rfl).2.1 | exact (E.bxs.at (i := 2) rfl).2.1 | exact (E.bxs.at (i := 3) rfl).2.1 | exact (E.bxs.at (i := 4) rfl).2.1 | exact (E.bxs.at (i := 5) rfl).2.1 | exact (E.bxs.at (i := 6) rfl).2.1 | exact (E.bxs.at (i := 7) rfl).2.1 | exact (E.bxs.at (i := 8) rfl).2.1 | exact (E.bxs.at (i := 9) rfl).2.1) Tryz.underlying77 rfl (by kernel_rfl) (.tmp .nil))) rfl ?_
                            rw [hno.out]
                            exact ⟨E.below, RZ.no⟩
                          · have d1 : decide (rd (bytesOf p) j < 48) = false := decide_eq_false d0
                            have d2 : decide (57 < rd (bytesOf p) j) = true := decide_eq_true (by have h := (not_congr (isd_iff (rd (bytesOf p) j))).1 hd8; omega)
                            clear d0
                            go_wp2_with (first | ((with_reducible refine gate_stored (t := 77) (by rfl) ?_); refine st_ (fun ws hs_ => ?_); replace E := Env.pt2 hs_ E; clear hs_; have hc_ := E.cls; (repeat (obtain ⟨c_, f_, hc_⟩ := hc_)); clear hc_))
                            refine bodyPost_ret (results_list (rs := [.cell _ 77, .tmp _]) rfl (by simp) (.cell _ _ _ (0, 0) _ rfl (by first | exact (E.bxs.at (i := 0) rfl).2.1 | exact (E.bxs.at (i := 1) rfl).2.1 | exact (E.bxs.at (i := 2) rfl).2.1 | exact (E.bxs.at (i := 3) rfl).2.1 | exact (E.bxs.at (i := 4) rfl).2.1 | exact (E.bxs.at (i := 5) rfl).2.1 | exact (E.bxs.at (i := 6) rfl).2.1 | exact (E.bxs.at (i := 7) rfl).2.1 | exact (E.bxs.at (i := 8) rfl).2.1 | exact (E.bxs.at (i := 9) rfl).2.1) Tryz.underlying77 rfl (by kernel_rfl) (.tmp .nil))) rfl ?_
                            rw [hno.out]
                            exact ⟨E.below, RZ.no⟩
                      · have hjb : decide (j < (n : Int)) = false := decide_eq_false hj
                        (try have hje : decide (j < e) = false := decide_eq_false (by omega))
                        have hfin := Aside0.mk (INV2.out.fin (by rw [HPL.out]; exact hj))
                        have hn := Aside0.mk (INV.out.next he (by have := HS.out; have := (cutm_spec HC.out).2.2; rw [bytesOf_len]; omega) (by rw [← HPP.out]; exact hfin.out.1))
                        rw [hw] at hn
                        clear hj
                        go_wp2_with (at_builtin; refine app32 (w := wc) (v := u6) (l := d) (y := x) (by rfl) (by rfl) (by rfl) (by rfl) HO2.out HB2.out (by have h1 := INV.out.2.2.1; have h2 := HS.out; have h3 := (cutm_spec HC.out).2.2; rw [bytesOf_len] at h1; omega) ?_; clear HB HO; intro v1 w1 ho hb; have HO := Aside0.mk ho; have HB := Aside0.mk hb; clear ho hb)
                        rw [hfin.out.2, HPP.out] at HO
                        go_roundg (e - 9).toNat
                        case measure => exact hn.out.1
                        case rel => exact ⟨_, _, rfl, ⟨by first | exact hn.out.2 | (rw [hw]; exact hn.out.2)⟩, HO, HB⟩)
                all_goals
                  generalize hp : t.extract 0 e.toNat = p
                  generalize hn : e.toNat = n
                  (all_goals
                    have HP : bytesOf p = rpart (bytesOf t) e := by rw [← hp, bytesOf_extract]; unfold rpart; congr 1; omega
                    have hpl : (bytesOf p).length = n := by rw [bytesOf_len, ← hp, ByteArray.size_extract]; omega
                    have HPL := Aside0.mk hpl
                    have HPP := Aside0.mk HP
                    have HR := Aside0.mk (bytes_reads wr 5 p (by rw [← bytesOf_len, HP]; have := rpart_len (l := bytesOf t) (e := e); omega))
                    have HB2 := Aside0.mk (bytes_below HB.out HB.out.size 5 p)
                    have HO2 := Aside0.mk (Kd.R_below HO.out (bytes_below (Below.refl _ _) (Nat.le_refl _) 5 p))
                    have E2 := Aside0.mk (E0.out.next HB2.out)
                    have RI0 := Aside0.mk (show RdIn (bytesOf p) 0 0 (n + 1) by have := RdIn.start (ck := bytesOf p) (by rw [HP]; exact rpart_len); rwa [hpl] at this)
                    have hps : p.size = n := by rw [← bytesOf_len]; exact hpl
                    clear HP hpl
                    go_loopg [8, 46] (n + 1) (fun kq v8 v46 w' => ∃ (x j : Int), v8 = .int .u32 x ∧ v46 = .int .i64 j ∧ Aside0 (RdIn (bytesOf p) j x kq) ∧ w' = Lib.bytesWorld wr 5 p)
                    case atStart => exact ⟨0, 0, rfl, rfl, RI0, rfl⟩
                    case round =>
                      obtain ⟨x, j, rfl, rfl, INV2, rfl⟩ := hrel
                      have j0 : 0 ≤ j := INV2.out.1.1
                      by_cases hj : j < (n : Int)
                      · have hjb : decide (j < (n : Int)) = true := decide_eq_true hj
                        (try have hje : decide (j < e) = true := decide_eq_true (by omega))
                        (try have hje2 : (j < e) = True := eq_true (by omega))
                        have cJ : (Lib.bytesWorld wr 5 p).cell? ⟨wr.heap.size, j.toNat, none⟩ = some (.int .u8 (rd (bytesOf p) j)) := by
                          obtain ⟨ad, e1, hc⟩ := HR.out.2.2 (by omega)
                          cases e1
                          have := hc j.toNat (by omega)
                          rw [add_plain] at this
                          exact this
                        have hjl : j < ((bytesOf p).length : Int) := by rw [HPL.out]; exact hj
                        have hj3 : (0 ≤ j) = True := eq_true j0
                        have hj4 : (j < (n : Int)) = True := eq_true hj
                        have HJ := Aside0.mk hjl
                        have hxb := Aside0.mk INV2.out.lt
                        by_cases hd8 : isd (rd (bytesOf p) j) = true
                        · have hb8 := (isd_iff _).1 hd8
                          have hn2 := Aside0.mk (INV2.out.next hjl hd8)
                          have d1 : decide (rd (bytesOf p) j < 48) = false := decide_eq_false (by omega)
                          have d2 : decide (57 < rd (bytesOf p) j) = false := decide_eq_false (by omega)
                          have d3 : (rd (bytesOf p) j - 48) % 256 = rd (bytesOf p) j - 48 := Int.emod_eq_of_lt (by omega) (by omega)
                          clear hj hjl hb8
                          have d4 : (10 * x % 4294967296 + (rd (bytesOf p) j - 48)) % 4294967296 = 10 * x + (rd (bytesOf p) j - 48) := by have h1 := hxb.out; have h2 := hn2.out.2.lt; omega
                          go_wp2
                          rw [d4]
                          go_roundg ((((bytesOf p).length : Int) - j).toNat)
                          case measure => exact hn2.out.1
                          case rel => exact ⟨_, _, rfl, rfl, ⟨hn2.out.2⟩, rfl⟩
                        · have hf8 : isd (rd (bytesOf p) j) = false := by simpa using hd8
                          have hbp : (bytesOf t).all isd = false := rpart_bad (e := e) j.toNat (by rw [← HPP.out, HPL.out]; omega) (by rw [← HPP.out, show ((j.toNat : Nat) : Int) = j by omega]; exact hf8)
                          have hno := Aside0.mk (show int? (bytesOf s) = none by have hs := cutm_spec HC.out; rw [hs.1, int?_cut _ _ hs.2.1, if_neg HG.out, if_neg (by rw [hbp]; decide)])
                          have E := E2.out
                          have hc_ := E.cls; (repeat (obtain ⟨c_, f_, hc_⟩ := hc_)); clear hc_
                          clear hj hjl hbp
                          by_cases d0 : rd (bytesOf p) j < 48
                          · have d1 : decide (rd (bytesOf p) j < 48) = true := decide_eq_true d0
                            clear d0
                            go_wp2_with (first | ((with_reducible refine gate_stored (t := 77) (by rfl) ?_); refine st_ (fun ws hs_ => ?_); replace E := Env.pt2 hs_ E; clear hs_; have hc_ := E.cls; (repeat (obtain ⟨c_, f_, hc_⟩ := hc_)); clear hc_))
                            refine bodyPost_ret (results_list (rs := [.cell _ 77, .tmp _]) rfl (by simp) (.cell _ _ _ (0, 0) _ rfl (by first | exact (E.bxs.at (i := 0) rfl).2.1 | exact (E.bxs.at (i := 1) rfl).2.1 | exact (E.bxs.at (i := 2) rfl).2.1 | exact (E.bxs.at (i := 3) rfl).2.1 | exact (E.bxs.at (i := 4) rfl).2.1 | exact (E.bxs.at (i := 5) rfl).2.1 | exact (E.bxs.at (i := 6) rfl).2.1 | exact (E.bxs.at (i := 7) rfl).2.1 | exact (E.bxs.at (i := 8) rfl).2.1 | exact (E.bxs.at (i := 9) rfl).2.1) Tryz.underlying77 rfl (by kernel_rfl) (.tmp .nil))) rfl ?_
                            rw [hno.out]
                            exact ⟨E.below, RZ.no⟩
                          · have d1 : decide (rd (bytesOf p) j < 48) = false := decide_eq_false d0
                            have d2 : decide (57 < rd (bytesOf p) j) = true := decide_eq_true (by have h := (not_congr (isd_iff (rd (bytesOf p) j))).1 hd8; omega)
                            clear d0
                            go_wp2_with (first | ((with_reducible refine gate_stored (t := 77) (by rfl) ?_); refine st_ (fun ws hs_ => ?_); replace E := Env.pt2 hs_ E; clear hs_; have hc_ := E.cls; (repeat (obtain ⟨c_, f_, hc_⟩ := hc_)); clear hc_))
                            refine bodyPost_ret (results_list (rs := [.cell _ 77, .tmp _]) rfl (by simp) (.cell _ _ _ (0, 0) _ rfl (by first | exact (E.bxs.at (i := 0) rfl).2.1 | exact (E.bxs.at (i := 1) rfl).2.1 | exact (E.bxs.at (i := 2) rfl).2.1 | exact (E.bxs.at (i := 3) rfl).2.1 | exact (E.bxs.at (i := 4) rfl).2.1 | exact (E.bxs.at (i := 5) rfl).2.1 | exact (E.bxs.at (i := 6) rfl).2.1 | exact (E.bxs.at (i := 7) rfl).2.1 | exact (E.bxs.at (i := 8) rfl).2.1 | exact (E.bxs.at (i := 9) rfl).2.1) Tryz.underlying77 rfl (by kernel_rfl) (.tmp .nil))) rfl ?_
                            rw [hno.out]
                            exact ⟨E.below, RZ.no⟩
                      · have hjb : decide (j < (n : Int)) = false := decide_eq_false hj
                        (try have hje : decide (j < e) = false := decide_eq_false (by omega))
                        have hfin := Aside0.mk (INV2.out.fin (by rw [HPL.out]; exact hj))
                        have hn := Aside0.mk (INV.out.next he (by have := HS.out; have := (cutm_spec HC.out).2.2; rw [bytesOf_len]; omega) (by rw [← HPP.out]; exact hfin.out.1))
                        rw [hw] at hn
                        clear hj
                        go_wp2_with (at_builtin; refine app32 (w := wc) (v := u6) (l := d) (y := x) (by rfl) (by rfl) (by rfl) (by rfl) HO2.out HB2.out (by have h1 := INV.out.2.2.1; have h2 := HS.out; have h3 := (cutm_spec HC.out).2.2; rw [bytesOf_len] at h1; omega) ?_; clear HB HO; intro v1 w1 ho hb; have HO := Aside0.mk ho; have HB := Aside0.mk hb; clear ho hb)
                        rw [hfin.out.2, HPP.out] at HO
                        go_roundg (e - 9).toNat
                        case measure => exact hn.out.1
                        case rel => exact ⟨_, _, rfl, ⟨by first | exact hn.out.2 | (rw [hw]; exact hn.out.2)⟩, HO, HB⟩)
              · have f4 : (0 ≤ e - 9) = False := eq_false hm
                have f5 : max 0 (e - 9) = 0 := by omega
                go_wp2
                generalize hp : t.extract 0 e.toNat = p
                generalize hn : e.toNat = n
                (all_goals
                    have HP : bytesOf p = rpart (bytesOf t) e := by rw [← hp, bytesOf_extract]; unfold rpart; congr 1; omega
                    have hpl : (bytesOf p).length = n := by rw [bytesOf_len, ← hp, ByteArray.size_extract]; omega
                    have HPL := Aside0.mk hpl
                    have HPP := Aside0.mk HP
                    have HR := Aside0.mk (bytes_reads wr 5 p (by rw [← bytesOf_len, HP]; have := rpart_len (l := bytesOf t) (e := e); omega))
                    have HB2 := Aside0.mk (bytes_below HB.out HB.out.size 5 p)
                    have HO2 := Aside0.mk (Kd.R_below HO.out (bytes_below (Below.refl _ _) (Nat.le_refl _) 5 p))
                    have E2 := Aside0.mk (E0.out.next HB2.out)
                    have RI0 := Aside0.mk (show RdIn (bytesOf p) 0 0 (n + 1) by have := RdIn.start (ck := bytesOf p) (by rw [HP]; exact rpart_len); rwa [hpl] at this)
                    have hps : p.size = n := by rw [← bytesOf_len]; exact hpl
                    clear HP hpl
                    go_loopg [8, 46] (n + 1) (fun kq v8 v46 w' => ∃ (x j : Int), v8 = .int .u32 x ∧ v46 = .int .i64 j ∧ Aside0 (RdIn (bytesOf p) j x kq) ∧ w' = Lib.bytesWorld wr 5 p)
                    case atStart => exact ⟨0, 0, rfl, rfl, RI0, rfl⟩
                    case round =>
                      obtain ⟨x, j, rfl, rfl, INV2, rfl⟩ := hrel
                      have j0 : 0 ≤ j := INV2.out.1.1
                      by_cases hj : j < (n : Int)
                      · have hjb : decide (j < (n : Int)) = true := decide_eq_true hj
                        (try have hje : decide (j < e) = true := decide_eq_true (by omega))
                        (try have hje2 : (j < e) = True := eq_true (by omega))
                        have cJ : (Lib.bytesWorld wr 5 p).cell? ⟨wr.heap.size, j.toNat, none⟩ = some (.int .u8 (rd (bytesOf p) j)) := by
                          obtain ⟨ad, e1, hc⟩ := HR.out.2.2 (by omega)
                          cases e1
                          have := hc j.toNat (by omega)
                          rw [add_plain] at this
                          exact this
                        have hjl : j < ((bytesOf p).length : Int) := by rw [HPL.out]; exact hj
                        have hj3 : (0 ≤ j) = True := eq_true j0
                        have hj4 : (j < (n : Int)) = True := eq_true hj
                        have HJ := Aside0.mk hjl
                        have hxb := Aside0.mk INV2.out.lt
                        by_cases hd8 : isd (rd (bytesOf p) j) = true
                        · have hb8 := (isd_iff _).1 hd8
                          have hn2 := Aside0.mk (INV2.out.next hjl hd8)
                          have d1 : decide (rd (bytesOf p) j < 48) = false := decide_eq_false (by omega)
                          have d2 : decide (57 < rd (bytesOf p) j) = false := decide_eq_false (by omega)
                          have d3 : (rd (bytesOf p) j - 48) % 256 = rd (bytesOf p) j - 48 := Int.emod_eq_of_lt (by omega) (by omega)
                          clear hj hjl hb8
                          have d4 : (10 * x % 4294967296 + (rd (bytesOf p) j - 48)) % 4294967296 = 10 * x + (rd (bytesOf p) j - 48) := by have h1 := hxb.out; have h2 := hn2.out.2.lt; omega
                          go_wp2
                          rw [d4]
                          go_roundg ((((bytesOf p).length : Int) - j).toNat)
                          case measure => exact hn2.out.1
                          case rel => exact ⟨_, _, rfl, rfl, ⟨hn2.out.2⟩, rfl⟩
                        · have hf8 : isd (rd (bytesOf p) j) = false := by simpa using hd8
                          have hbp : (bytesOf t).all isd = false := rpart_bad (e := e) j.toNat (by rw [← HPP.out, HPL.out]; omega) (by rw [← HPP.out, show ((j.toNat : Nat) : Int) = j by omega]; exact hf8)
                          have hno := Aside0.mk (show int? (bytesOf s) = none by have hs := cutm_spec HC.out; rw [hs.1, int?_cut _ _ hs.2.1, if_neg HG.out, if_neg (by rw [hbp]; decide)])
                          have E := E2.out
                          have hc_ := E.cls; (repeat (obtain ⟨c_, f_, hc_⟩ := hc_)); clear hc_
                          clear hj hjl hbp
                          by_cases d0 : rd (bytesOf p) j < 48
                          · have d1 : decide (rd (bytesOf p) j < 48) = true := decide_eq_true d0
                            clear d0
                            go_wp2_with (first | ((with_reducible refine gate_stored (t := 77) (by rfl) ?_); refine st_ (fun ws hs_ => ?_); replace E := Env.pt2 hs_ E; clear hs_; have hc_ := E.cls; (repeat (obtain ⟨c_, f_, hc_⟩ := hc_)); clear hc_))
                            refine bodyPost_ret (results_list (rs := [.cell _ 77, .tmp _]) rfl (by simp) (.cell _ _ _ (0, 0) _ rfl (by first | exact (E.bxs.at (i := 0) rfl).2.1 | exact (E.bxs.at (i := 1) rfl).2.1 | exact (E.bxs.at (i := 2) rfl).2.1 | exact (E.bxs.at (i := 3) rfl).2.1 | exact (E.bxs.at (i := 4) rfl).2.1 | exact (E.bxs.at (i := 5) rfl).2.1 | exact (E.bxs.at (i := 6) rfl).2.1 | exact (E.bxs.at (i := 7) rfl).2.1 | exact (E.bxs.at (i := 8) rfl).2.1 | exact (E.bxs.at (i := 9) rfl).2.1) Tryz.underlying77 rfl (by kernel_rfl) (.tmp .nil))) rfl ?_
                            rw [hno.out]
                            exact ⟨E.below, RZ.no⟩
                          · have d1 : decide (rd (bytesOf p) j < 48) = false := decide_eq_false d0
                            have d2 : decide (57 < rd (bytesOf p) j) = true := decide_eq_true (by have h := (not_congr (isd_iff (rd (bytesOf p) j))).1 hd8; omega)
                            clear d0
                            go_wp2_with (first | ((with_reducible refine gate_stored (t := 77) (by rfl) ?_); refine st_ (fun ws hs_ => ?_); replace E := Env.pt2 hs_ E; clear hs_; have hc_ := E.cls; (repeat (obtain ⟨c_, f_, hc_⟩ := hc_)); clear hc_))
                            refine bodyPost_ret (results_list (rs := [.cell _ 77, .tmp _]) rfl (by simp) (.cell _ _ _ (0, 0) _ rfl (by first | exact (E.bxs.at (i := 0) rfl).2.1 | exact (E.bxs.at (i := 1) rfl).2.1 | exact (E.bxs.at (i := 2) rfl).2.1 | exact (E.bxs.at (i := 3) rfl).2.1 | exact (E.bxs.at (i := 4) rfl).2.1 | exact (E.bxs.at (i := 5) rfl).2.1 | exact (E.bxs.at (i := 6) rfl).2.1 | exact (E.bxs.at (i := 7) rfl).2.1 | exact (E.bxs.at (i := 8) rfl).2.1 | exact (E.bxs.at (i := 9) rfl).2.1) Tryz.underlying77 rfl (by kernel_rfl) (.tmp .nil))) rfl ?_
                            rw [hno.out]
                            exact ⟨E.below, RZ.no⟩
                      · have hjb : decide (j < (n : Int)) = false := decide_eq_false hj
                        (try have hje : decide (j < e) = false := decide_eq_false (by omega))
                        have hfin := Aside0.mk (INV2.out.fin (by rw [HPL.out]; exact hj))
                        have hn := Aside0.mk (INV.out.next he (by have := HS.out; have := (cutm_spec HC.out).2.2; rw [bytesOf_len]; omega) (by rw [← HPP.out]; exact hfin.out.1))
                        rw [hw] at hn
                        clear hj
                        go_wp2_with (at_builtin; refine app32 (w := wc) (v := u6) (l := d) (y := x) (by rfl) (by rfl) (by rfl) (by rfl) HO2.out HB2.out (by have h1 := INV.out.2.2.1; have h2 := HS.out; have h3 := (cutm_spec HC.out).2.2; rw [bytesOf_len] at h1; omega) ?_; clear HB HO; intro v1 w1 ho hb; have HO := Aside0.mk ho; have HB := Aside0.mk hb; clear ho hb)
                        rw [hfin.out.2, HPP.out] at HO
                        go_roundg (e - 9).toNat
                        case measure => exact hn.out.1
                        case rel => exact ⟨_, _, rfl, ⟨by first | exact hn.out.2 | (rw [hw]; exact hn.out.2)⟩, HO, HB⟩)
            · have heb : decide (0 < e) = false := decide_eq_false he
              have hfin := Aside0.mk (INV.out.fin he)
              have DD := Dg.of_R HO.out
              obtain ⟨A', c', rfl, h4, h5⟩ := DD
              replace E := E.dg (Dg.of_R HO.out)
              clear h4 h5 he HO INV
              go_wp2_with (first | ((with_reducible refine gate_stored (t := 77) (by rfl) ?_); refine st_ (fun ws hs_ => ?_); replace E := Env.pt2 hs_ E; clear hs_; have hc_ := E.cls; (repeat (obtain ⟨c_, f_, hc_⟩ := hc_)); clear hc_) | (go_at_call 153; refine env_call E (signed_calls E.getD hfin.out.2.1) ?_; clear E; rintro e wc E ⟨br, Ar, nr, cr, rfl, hw_⟩; replace E := E.wh hw_; clear hw_; have hc_ := E.cls; (repeat (obtain ⟨c_, f_, hc_⟩ := hc_)); clear hc_))
              refine bodyPost_ret (results_list (rs := [.cell _ 77, .tmp _]) rfl (by simp) (.cell _ _ _ (0, 0) _ rfl (by first | exact (E.bxs.at (i := 0) rfl).2.1 | exact (E.bxs.at (i := 1) rfl).2.1 | exact (E.bxs.at (i := 2) rfl).2.1 | exact (E.bxs.at (i := 3) rfl).2.1 | exact (E.bxs.at (i := 4) rfl).2.1 | exact (E.bxs.at (i := 5) rfl).2.1 | exact (E.bxs.at (i := 6) rfl).2.1 | exact (E.bxs.at (i := 7) rfl).2.1 | exact (E.bxs.at (i := 8) rfl).2.1 | exact (E.bxs.at (i := 9) rfl).2.1) Tryz.underlying77 rfl (by kernel_rfl) (.tmp .nil))) rfl ?_
              have hs := cutm_spec HC.out
              rw [hs.1, int?_cut _ _ hs.2.1, if_neg HG.out, if_pos hfin.out.1, ← hfin.out.2.2]
              exact ⟨E.below, _, _, _, _, rfl, E.getW⟩)
    · have hz : (rd (bytesOf t) 0 == 48) = false := beq_eq_false_iff_ne.mpr h48
      have HG := Aside0.mk (show ¬ (bytesOf t = [] ∨ ((bytesOf t).head? = some 48 ∧ (1 < (bytesOf t).length ∨ neg = true))) by
        rintro (h | h)
        · have := bytesOf_len t; rw [h] at this; simp at this; omega
        · rw [head_rd (by rw [bytesOf_len]; exact hpos)] at h
          exact h48 (Option.some.inj h.1))
      clear h48
      go_wp2_with (first | ((with_reducible first | refine gate_box (by rfl) ?_ | refine gate_alloc (by rfl) ?_); refine bx_ E ?_; clear E; intro gb wb E; have hc_ := E.cls; (repeat (obtain ⟨c_, f_, hc_⟩ := hc_)); clear hc_) | (go_at_call 79; refine env_call E (cutp_calls _ s) ?_; clear E; rintro e wc E rfl; rw [HC.out]; have hc_ := E.cls; (repeat (obtain ⟨c_, f_, hc_⟩ := hc_)); clear hc_))
      (all_goals
          have E0 := Aside0.mk E
          have HB := Aside0.mk (Below.refl wc.heap.size wc)
          have HO := Aside0.mk (Kd.R_nil KU 145 wc wc.heap.size (fun _ => True))
          have RO0 := Aside0.mk (show RdOut (bytesOf t) [] (t.size : Int) t.size by have := RdOut.start (bytesOf t); rwa [bytesOf_len] at this)
          go_loopg [6, 7] t.size (fun kq v6 v7 w' => ∃ (d : List Int) (e : Int), v7 = .int .i64 e ∧ Aside0 (RdOut (bytesOf t) d e kq) ∧ Aside0 (Own32 wc w' v6 d) ∧ Aside0 (Below wc.heap.size wc w'))
          case atStart => exact ⟨_, _, rfl, RO0, HO, HB⟩
          case round =>
            clear HO HB E RO0
            obtain ⟨d, e, rfl, INV, HO, HB⟩ := hrel
            have E := E0.out.next HB.out
            have hc_ := E.cls; (repeat (obtain ⟨c_, f_, hc_⟩ := hc_)); clear hc_
            by_cases he : 0 < e
            · have heb : decide (0 < e) = true := decide_eq_true he
              have hle : e ≤ (t.size : Int) := by have := INV.out.1.1; rwa [bytesOf_len] at this
              have hw : wrap64 (e - 9) = e - 9 := by have := HS.out; have := (cutm_spec HC.out).2.2; rw [wrap_id (by omega) (by omega)]
              have f9 : max e 0 = e := by omega
              have hen : ((e.toNat : Nat) : Int) = e := by omega
              have f1 : (e - 9 ≤ e) = True := eq_true (by omega)
              have f2 : (e ≤ (t.size : Int)) = True := eq_true hle
              have f3 : (0 ≤ e) = True := eq_true (by omega)
              have kb := fun s W => print_bytes (P := Tryz.prog) 9 129 5 Tryz.underlying9 Tryz.underlying129 Tryz.underlying5 s W
              by_cases hm : 0 ≤ e - 9
              · have f4 : (0 ≤ e - 9) = True := eq_true hm
                have f5 : max 0 (e - 9) = e - 9 := by omega
                have f6 : (9 ≤ e) = True := eq_true (by omega)
                have f7 : (e < 9) = False := eq_false (by omega)
                have f8 : (e - 9 < 0) = False := eq_false (by omega)
                go_wp2
                · generalize hp : t.extract (e - 9).toNat e.toNat = p
                  generalize hn : e.toNat - (e - 9).toNat = n
                  (all_goals
                    have HP : bytesOf p = rpart (bytesOf t) e := by rw [← hp, bytesOf_extract]; unfold rpart; congr 1; omega
                    have hpl : (bytesOf p).length = n := by rw [bytesOf_len, ← hp, ByteArray.size_extract]; omega
                    have HPL := Aside0.mk hpl
                    have HPP := Aside0.mk HP
                    have HR := Aside0.mk (bytes_reads wr 5 p (by rw [← bytesOf_len, HP]; have := rpart_len (l := bytesOf t) (e := e); omega))
                    have HB2 := Aside0.mk (bytes_below HB.out HB.out.size 5 p)
                    have HO2 := Aside0.mk (Kd.R_below HO.out (bytes_below (Below.refl _ _) (Nat.le_refl _) 5 p))
                    have E2 := Aside0.mk (E0.out.next HB2.out)
                    have RI0 := Aside0.mk (show RdIn (bytesOf p) 0 0 (n + 1) by have := RdIn.start (ck := bytesOf p) (by rw [HP]; exact rpart_len); rwa [hpl] at this)
                    have hps : p.size = n := by rw [← bytesOf_len]; exact hpl
                    clear HP hpl
                    go_loopg [8, 46] (n + 1) (fun kq v8 v46 w' => ∃ (x j : Int), v8 = .int .u32 x ∧ v46 = .int .i64 j ∧ Aside0 (RdIn (bytesOf p) j x kq) ∧ w' = Lib.bytesWorld wr 5 p)
                    case atStart => exact ⟨0, 0, rfl, rfl, RI0, rfl⟩
                    case round =>
                      obtain ⟨x, j, rfl, rfl, INV2, rfl⟩ := hrel
                      have j0 : 0 ≤ j := INV2.out.1.1
                      by_cases hj : j < (n : Int)
                      · have hjb : decide (j < (n : Int)) = true := decide_eq_true hj
                        (try have hje : decide (j < e) = true := decide_eq_true (by omega))
                        (try have hje2 : (j < e) = True := eq_true (by omega))
                        have cJ : (Lib.bytesWorld wr 5 p).cell? ⟨wr.heap.size, j.toNat, none⟩ = some (.int .u8 (rd (bytesOf p) j)) := by
                          obtain ⟨ad, e1, hc⟩ := HR.out.2.2 (by omega)
                          cases e1
                          have := hc j.toNat (by omega)
                          rw [add_plain] at this
                          exact this
                        have hjl : j < ((bytesOf p).length : Int) := by rw [HPL.out]; exact hj
                        have hj3 : (0 ≤ j) = True := eq_true j0
                        have hj4 : (j < (n : Int)) = True := eq_true hj
                        have HJ := Aside0.mk hjl
                        have hxb := Aside0.mk INV2.out.lt
                        by_cases hd8 : isd (rd (bytesOf p) j) = true
                        · have hb8 := (isd_iff _).1 hd8
                          have hn2 := Aside0.mk (INV2.out.next hjl hd8)
                          have d1 : decide (rd (bytesOf p) j < 48) = false := decide_eq_false (by omega)
                          have d2 : decide (57 < rd (bytesOf p) j) = false := decide_eq_false (by omega)
                          have d3 : (rd (bytesOf p) j - 48) % 256 = rd (bytesOf p) j - 48 := Int.emod_eq_of_lt (by omega) (by omega)
                          clear hj hjl hb8
                          have d4 : (10 * x % 4294967296 + (rd (bytesOf p) j - 48)) % 4294967296 = 10 * x + (rd (bytesOf p) j - 48) := by have h1 := hxb.out; have h2 := hn2.out.2.lt; omega
                          go_wp2
                          rw [d4]
                          go_roundg ((((bytesOf p).length : Int) - j).toNat)
                          case measure => exact hn2.out.1
                          case rel => exact ⟨_, _, rfl, rfl, ⟨hn2.out.2⟩, rfl⟩
                        · have hf8 : isd (rd (bytesOf p) j) = false := by simpa using hd8
                          have hbp : (bytesOf t).all isd = false := rpart_bad (e := e) j.toNat (by rw [← HPP.out, HPL.out]; omega) (by rw [← HPP.out, show ((j.toNat : Nat) : Int) = j by omega]; exact hf8)
                          have hno := Aside0.mk (show int? (bytesOf s) = none by have hs := cutm_spec HC.out; rw [hs.1, int?_cut _ _ hs.2.1, if_neg HG.out, if_neg (by rw [hbp]; decide)])
                          have E := E2.out
                          have hc_ := E.cls; (repeat (obtain ⟨c_, f_, hc_⟩ := hc_)); clear hc_
                          clear hj hjl hbp
                          by_cases d0 : rd (bytesOf p) j < 48
                          · have d1 : decide (rd (bytesOf p) j < 48) = true := decide_eq_true d0
                            clear d0
                            go_wp2_with (first | ((with_reducible refine gate_stored (t := 77) (by rfl) ?_); refine st_ (fun ws hs_ => ?_); replace E := Env.pt2 hs_ E; clear hs_; have hc_ := E.cls; (repeat (obtain ⟨c_, f_, hc_⟩ := hc_)); clear hc_))
                            refine bodyPost_ret (results_list (rs := [.cell _ 77, .tmp _]) rfl (by simp) (.cell _ _ _ (0, 0) _ rfl (by first | exact (E.bxs.at (i := 0) rfl).2.1 | exact (E.bxs.at (i := 1) rfl).2.1 | exact (E.bxs.at (i := 2) rfl).2.1 | exact (E.bxs.at (i := 3) rfl).2.1 | exact (E.bxs.at (i := 4) rfl).2.1 | exact (E.bxs.at (i := 5) rfl).2.1 | exact (E.bxs.at (i := 6) rfl).2.1 | exact (E.bxs.at (i := 7) rfl).2.1 | exact (E.bxs.at (i := 8) rfl).2.1 | exact (E.bxs.at (i := 9) rfl).2.1) Tryz.underlying77 rfl (by kernel_rfl) (.tmp .nil))) rfl ?_
                            rw [hno.out]
                            exact ⟨E.below, RZ.no⟩
                          · have d1 : decide (rd (bytesOf p) j < 48) = false := decide_eq_false d0
                            have d2 : decide (57 < rd (bytesOf p) j) = true := decide_eq_true (by have h := (not_congr (isd_iff (rd (bytesOf p) j))).1 hd8; omega)
                            clear d0
                            go_wp2_with (first | ((with_reducible refine gate_stored (t := 77) (by rfl) ?_); refine st_ (fun ws hs_ => ?_); replace E := Env.pt2 hs_ E; clear hs_; have hc_ := E.cls; (repeat (obtain ⟨c_, f_, hc_⟩ := hc_)); clear hc_))
                            refine bodyPost_ret (results_list (rs := [.cell _ 77, .tmp _]) rfl (by simp) (.cell _ _ _ (0, 0) _ rfl (by first | exact (E.bxs.at (i := 0) rfl).2.1 | exact (E.bxs.at (i := 1) rfl).2.1 | exact (E.bxs.at (i := 2) rfl).2.1 | exact (E.bxs.at (i := 3) rfl).2.1 | exact (E.bxs.at (i := 4) rfl).2.1 | exact (E.bxs.at (i := 5) rfl).2.1 | exact (E.bxs.at (i := 6) rfl).2.1 | exact (E.bxs.at (i := 7) rfl).2.1 | exact (E.bxs.at (i := 8) rfl).2.1 | exact (E.bxs.at (i := 9) rfl).2.1) Tryz.underlying77 rfl (by kernel_rfl) (.tmp .nil))) rfl ?_
                            rw [hno.out]
                            exact ⟨E.below, RZ.no⟩
                      · have hjb : decide (j < (n : Int)) = false := decide_eq_false hj
                        (try have hje : decide (j < e) = false := decide_eq_false (by omega))
                        have hfin := Aside0.mk (INV2.out.fin (by rw [HPL.out]; exact hj))
                        have hn := Aside0.mk (INV.out.next he (by have := HS.out; have := (cutm_spec HC.out).2.2; rw [bytesOf_len]; omega) (by rw [← HPP.out]; exact hfin.out.1))
                        rw [hw] at hn
                        clear hj
                        go_wp2_with (at_builtin; refine app32 (w := wc) (v := u6) (l := d) (y := x) (by rfl) (by rfl) (by rfl) (by rfl) HO2.out HB2.out (by have h1 := INV.out.2.2.1; have h2 := HS.out; have h3 := (cutm_spec HC.out).2.2; rw [bytesOf_len] at h1; omega) ?_; clear HB HO; intro v1 w1 ho hb; have HO := Aside0.mk ho; have HB := Aside0.mk hb; clear ho hb)
                        rw [hfin.out.2, HPP.out] at HO
                        go_roundg (e - 9).toNat
                        case measure => exact hn.out.1
                        case rel => exact ⟨_, _, rfl, ⟨by first | exact hn.out.2 | (rw [hw]; exact hn.out.2)⟩, HO, HB⟩)
                all_goals
                  generalize hp : t.extract 0 e.toNat = p
                  generalize hn : e.toNat = n
                  (all_goals
                    have HP : bytesOf p = rpart (bytesOf t) e := by rw [← hp, bytesOf_extract]; unfold rpart; congr 1; omega
                    have hpl : (bytesOf p).length = n := by rw [bytesOf_len, ← hp, ByteArray.size_extract]; omega
                    have HPL := Aside0.mk hpl
                    have HPP := Aside0.mk HP
                    have HR := Aside0.mk (bytes_reads wr 5 p (by rw [← bytesOf_len, HP]; have := rpart_len (l := bytesOf t) (e := e); omega))
                    have HB2 := Aside0.mk (bytes_below HB.out HB.out.size 5 p)
                    have HO2 := Aside0.mk (Kd.R_below HO.out (bytes_below (Below.refl _ _) (Nat.le_refl _) 5 p))
                    have E2 := Aside0.mk (E0.out.next HB2.out)
                    have RI0 := Aside0.mk (show RdIn (bytesOf p) 0 0 (n + 1) by have := RdIn.start (ck := bytesOf p) (by rw [HP]; exact rpart_len); rwa [hpl] at this)
                    have hps : p.size = n := by rw [← bytesOf_len]; exact hpl
                    clear HP hpl
                    go_loopg [8, 46] (n + 1) (fun kq v8 v46 w' => ∃ (x j : Int), v8 = .int .u32 x ∧ v46 = .int .i64 j ∧ Aside0 (RdIn (bytesOf p) j x kq) ∧ w' = Lib.bytesWorld wr 5 p)
                    case atStart => exact ⟨0, 0, rfl, rfl, RI0, rfl⟩
                    case round =>
                      obtain ⟨x, j, rfl, rfl, INV2, rfl⟩ := hrel
                      have j0 : 0 ≤ j := INV2.out.1.1
                      by_cases hj : j < (n : Int)
                      · have hjb : decide (j < (n : Int)) = true := decide_eq_true hj
                        (try have hje : decide (j < e) = true := decide_eq_true (by omega))
                        (try have hje2 : (j < e) = True := eq_true (by omega))
                        have cJ : (Lib.bytesWorld wr 5 p).cell? ⟨wr.heap.size, j.toNat, none⟩ = some (.int .u8 (rd (bytesOf p) j)) := by
                          obtain ⟨ad, e1, hc⟩ := HR.out.2.2 (by omega)
                          cases e1
                          have := hc j.toNat (by omega)
                          rw [add_plain] at this
                          exact this
                        have hjl : j < ((bytesOf p).length : Int) := by rw [HPL.out]; exact hj
                        have hj3 : (0 ≤ j) = True := eq_true j0
                        have hj4 : (j < (n : Int)) = True := eq_true hj
                        have HJ := Aside0.mk hjl
                        have hxb := Aside0.mk INV2.out.lt
                        by_cases hd8 : isd (rd (bytesOf p) j) = true
                        · have hb8 := (isd_iff _).1 hd8
                          have hn2 := Aside0.mk (INV2.out.next hjl hd8)
                          have d1 : decide (rd (bytesOf p) j < 48) = false := decide_eq_false (by omega)
                          have d2 : decide (57 < rd (bytesOf p) j) = false := decide_eq_false (by omega)
                          have d3 : (rd (bytesOf p) j - 48) % 256 = rd (bytesOf p) j - 48 := Int.emod_eq_of_lt (by omega) (by omega)
                          clear hj hjl hb8
                          have d4 : (10 * x % 4294967296 + (rd (bytesOf p) j - 48)) % 4294967296 = 10 * x + (rd (bytesOf p) j - 48) := by have h1 := hxb.out; have h2 := hn2.out.2.lt; omega
                          go_wp2
                          rw [d4]
                          go_roundg ((((bytesOf p).length : Int) - j).toNat)
                          case measure => exact hn2.out.1
                          case rel => exact ⟨_, _, rfl, rfl, ⟨hn2.out.2⟩, rfl⟩
                        · have hf8 : isd (rd (bytesOf p) j) = false := by simpa using hd8
                          have hbp : (bytesOf t).all isd = false := rpart_bad (e := e) j.toNat (by rw [← HPP.out, HPL.out]; omega) (by rw [← HPP.out, show ((j.toNat : Nat) : Int) = j by omega]; exact hf8)
                          have hno := Aside0.mk (show int? (bytesOf s) = none by have hs := cutm_spec HC.out; rw [hs.1, int?_cut _ _ hs.2.1, if_neg HG.out, if_neg (by rw [hbp]; decide)])
                          have E := E2.out
                          have hc_ := E.cls; (repeat (obtain ⟨c_, f_, hc_⟩ := hc_)); clear hc_
                          clear hj hjl hbp
                          by_cases d0 : rd (bytesOf p) j < 48
                          · have d1 : decide (rd (bytesOf p) j < 48) = true := decide_eq_true d0
                            clear d0
                            go_wp2_with (first | ((with_reducible refine gate_stored (t := 77) (by rfl) ?_); refine st_ (fun ws hs_ => ?_); replace E := Env.pt2 hs_ E; clear hs_; have hc_ := E.cls; (repeat (obtain ⟨c_, f_, hc_⟩ := hc_)); clear hc_))
                            refine bodyPost_ret (results_list (rs := [.cell _ 77, .tmp _]) rfl (by simp) (.cell _ _ _ (0, 0) _ rfl (by first | exact (E.bxs.at (i := 0) rfl).2.1 | exact (E.bxs.at (i := 1) rfl).2.1 | exact (E.bxs.at (i := 2) rfl).2.1 | exact (E.bxs.at (i := 3) rfl).2.1 | exact (E.bxs.at (i := 4) rfl).2.1 | exact (E.bxs.at (i := 5) rfl).2.1 | exact (E.bxs.at (i := 6) rfl).2.1 | exact (E.bxs.at (i := 7) rfl).2.1 | exact (E.bxs.at (i := 8) rfl).2.1 | exact (E.bxs.at (i := 9) rfl).2.1) Tryz.underlying77 rfl (by kernel_rfl) (.tmp .nil))) rfl ?_
                            rw [hno.out]
                            exact ⟨E.below, RZ.no⟩
                          · have d1 : decide (rd (bytesOf p) j < 48) = false := decide_eq_false d0
                            have d2 : decide (57 < rd (bytesOf p) j) = true := decide_eq_true (by have h := (not_congr (isd_iff (rd (bytesOf p) j))).1 hd8; omega)
                            clear d0
                            go_wp2_with (first | ((with_reducible refine gate_stored (t := 77) (by rfl) ?_); refine st_ (fun ws hs_ => ?_); replace E := Env.pt2 hs_ E; clear hs_; have hc_ := E.cls; (repeat (obtain ⟨c_, f_, hc_⟩ := hc_)); clear hc_))
                            refine bodyPost_ret (results_list (rs := [.cell _ 77, .tmp _]) rfl (by simp) (.cell _ _ _ (0, 0) _ rfl (by first | exact (E.bxs.at (i := 0) rfl).2.1 | exact (E.bxs.at (i := 1) rfl).2.1 | exact (E.bxs.at (i := 2) rfl).2.1 | exact (E.bxs.at (i := 3) rfl).2.1 | exact (E.bxs.at (i := 4) rfl).2.1 | exact (E.bxs.at (i := 5) rfl).2.1 | exact (E.bxs.at (i := 6) rfl).2.1 | exact (E.bxs.at (i := 7) rfl).2.1 | exact (E.bxs.at (i := 8) rfl).2.1 | exact (E.bxs.at (i := 9) rfl).2.1) Tryz.underlying77 rfl (by kernel_rfl) (.tmp .nil))) rfl ?_
                            rw [hno.out]
                            exact ⟨E.below, RZ.no⟩
                      · have hjb : decide (j < (n : Int)) = false := decide_eq_false hj
                        (try have hje : decide (j < e) = false := decide_eq_false (by omega))
                        have hfin := Aside0.mk (INV2.out.fin (by rw [HPL.out]; exact hj))
                        have hn := Aside0.mk (INV.out.next he (by have := HS.out; have := (cutm_spec HC.out).2.2; rw [bytesOf_len]; omega) (by rw [← HPP.out]; exact hfin.out.1))
                        rw [hw] at hn
                        clear hj
                        go_wp2_with (at_builtin; refine app32 (w := wc) (v := u6) (l := d) (y := x) (by rfl) (by rfl) (by rfl) (by rfl) HO2.out HB2.out (by have h1 := INV.out.2.2.1; have h2 := HS.out; have h3 := (cutm_spec HC.out).2.2; rw [bytesOf_len] at h1; omega) ?_; clear HB HO; intro v1 w1 ho hb; have HO := Aside0.mk ho; have HB := Aside0.mk hb; clear ho hb)
                        rw [hfin.out.2, HPP.out] at HO
                        go_roundg (e - 9).toNat
                        case measure => exact hn.out.1
                        case rel => exact ⟨_, _, rfl, ⟨by first | exact hn.out.2 | (rw [hw]; exact hn.out.2)⟩, HO, HB⟩)
              · have f4 : (0 ≤ e - 9) = False := eq_false hm
                have f5 : max 0 (e - 9) = 0 := by omega
                go_wp2
                generalize hp : t.extract 0 e.toNat = p
                generalize hn : e.toNat = n
                (all_goals
                    have HP : bytesOf p = rpart (bytesOf t) e := by rw [← hp, bytesOf_extract]; unfold rpart; congr 1; omega
                    have hpl : (bytesOf p).length = n := by rw [bytesOf_len, ← hp, ByteArray.size_extract]; omega
                    have HPL := Aside0.mk hpl
                    have HPP := Aside0.mk HP
                    have HR := Aside0.mk (bytes_reads wr 5 p (by rw [← bytesOf_len, HP]; have := rpart_len (l := bytesOf t) (e := e); omega))
                    have HB2 := Aside0.mk (bytes_below HB.out HB.out.size 5 p)
                    have HO2 := Aside0.mk (Kd.R_below HO.out (bytes_below (Below.refl _ _) (Nat.le_refl _) 5 p))
                    have E2 := Aside0.mk (E0.out.next HB2.out)
                    have RI0 := Aside0.mk (show RdIn (bytesOf p) 0 0 (n + 1) by have := RdIn.start (ck := bytesOf p) (by rw [HP]; exact rpart_len); rwa [hpl] at this)
                    have hps : p.size = n := by rw [← bytesOf_len]; exact hpl
                    clear HP hpl
                    go_loopg [8, 46] (n + 1) (fun kq v8 v46 w' => ∃ (x j : Int), v8 = .int .u32 x ∧ v46 = .int .i64 j ∧ Aside0 (RdIn (bytesOf p) j x kq) ∧ w' = Lib.bytesWorld wr 5 p)
                    case atStart => exact ⟨0, 0, rfl, rfl, RI0, rfl⟩
                    case round =>
                      obtain ⟨x, j, rfl, rfl, INV2, rfl⟩ := hrel
                      have j0 : 0 ≤ j := INV2.out.1.1
                      by_cases hj : j < (n : Int)
                      · have hjb : decide (j < (n : Int)) = true := decide_eq_true hj
                        (try have hje : decide (j < e) = true := decide_eq_true (by omega))
                        (try have hje2 : (j < e) = True := eq_true (by omega))
                        have cJ : (Lib.bytesWorld wr 5 p).cell? ⟨wr.heap.size, j.toNat, none⟩ = some (.int .u8 (rd (bytesOf p) j)) := by
                          obtain ⟨ad, e1, hc⟩ := HR.out.2.2 (by omega)
                          cases e1
                          have := hc j.toNat (by omega)
                          rw [add_plain] at this
                          exact this
                        have hjl : j < ((bytesOf p).length : Int) := by rw [HPL.out]; exact hj
                        have hj3 : (0 ≤ j) = True := eq_true j0
                        have hj4 : (j < (n : Int)) = True := eq_true hj
                        have HJ := Aside0.mk hjl
                        have hxb := Aside0.mk INV2.out.lt
                        by_cases hd8 : isd (rd (bytesOf p) j) = true
                        · have hb8 := (isd_iff _).1 hd8
                          have hn2 := Aside0.mk (INV2.out.next hjl hd8)
                          have d1 : decide (rd (bytesOf p) j < 48) = false := decide_eq_false (by omega)
                          have d2 : decide (57 < rd (bytesOf p) j) = false := decide_eq_false (by omega)
                          have d3 : (rd (bytesOf p) j - 48) % 256 = rd (bytesOf p) j - 48 := Int.emod_eq_of_lt (by omega) (by omega)
                          clear hj hjl hb8
                          have d4 : (10 * x % 4294967296 + (rd (bytesOf p) j - 48)) % 4294967296 = 10 * x + (rd (bytesOf p) j - 48) := by have h1 := hxb.out; have h2 := hn2.out.2.lt; omega
                          go_wp2
                          rw [d4]
                          go_roundg ((((bytesOf p).length : Int) - j).toNat)
                          case measure => exact hn2.out.1
                          case rel => exact ⟨_, _, rfl, rfl, ⟨hn2.out.2⟩, rfl⟩
                        · have hf8 : isd (rd (bytesOf p) j) = false := by simpa using hd8
                          have hbp : (bytesOf t).all isd = false := rpart_bad (e := e) j.toNat (by rw [← HPP.out, HPL.out]; omega) (by rw [← HPP.out, show ((j.toNat : Nat) : Int) = j by omega]; exact hf8)
                          have hno := Aside0.mk (show int? (bytesOf s) = none by have hs := cutm_spec HC.out; rw [hs.1, int?_cut _ _ hs.2.1, if_neg HG.out, if_neg (by rw [hbp]; decide)])
                          have E := E2.out
                          have hc_ := E.cls; (repeat (obtain ⟨c_, f_, hc_⟩ := hc_)); clear hc_
                          clear hj hjl hbp
                          by_cases d0 : rd (bytesOf p) j < 48
                          · have d1 : decide (rd (bytesOf p) j < 48) = true := decide_eq_true d0
                            clear d0
                            go_wp2_with (first | ((with_reducible refine gate_stored (t := 77) (by rfl) ?_); refine st_ (fun ws hs_ => ?_); replace E := Env.pt2 hs_ E; clear hs_; have hc_ := E.cls; (repeat (obtain ⟨c_, f_, hc_⟩ := hc_)); clear hc_))
                            refine bodyPost_ret (results_list (rs := [.cell _ 77, .tmp _]) rfl (by simp) (.cell _ _ _ (0, 0) _ rfl (by first | exact (E.bxs.at (i := 0) rfl).2.1 | exact (E.bxs.at (i := 1) rfl).2.1 | exact (E.bxs.at (i := 2) rfl).2.1 | exact (E.bxs.at (i := 3) rfl).2.1 | exact (E.bxs.at (i := 4) rfl).2.1 | exact (E.bxs.at (i := 5) rfl).2.1 | exact (E.bxs.at (i := 6) rfl).2.1 | exact (E.bxs.at (i := 7) rfl).2.1 | exact (E.bxs.at (i := 8) rfl).2.1 | exact (E.bxs.at (i := 9) rfl).2.1) Tryz.underlying77 rfl (by kernel_rfl) (.tmp .nil))) rfl ?_
                            rw [hno.out]
                            exact ⟨E.below, RZ.no⟩
                          · have d1 : decide (rd (bytesOf p) j < 48) = false := decide_eq_false d0
                            have d2 : decide (57 < rd (bytesOf p) j) = true := decide_eq_true (by have h := (not_congr (isd_iff (rd (bytesOf p) j))).1 hd8; omega)
                            clear d0
                            go_wp2_with (first | ((with_reducible refine gate_stored (t := 77) (by rfl) ?_); refine st_ (fun ws hs_ => ?_); replace E := Env.pt2 hs_ E; clear hs_; have hc_ := E.cls; (repeat (obtain ⟨c_, f_, hc_⟩ := hc_)); clear hc_))
                            refine bodyPost_ret (results_list (rs := [.cell _ 77, .tmp _]) rfl (by simp) (.cell _ _ _ (0, 0) _ rfl (by first | exact (E.bxs.at (i := 0) rfl).2.1 | exact (E.bxs.at (i := 1) rfl).2.1 | exact (E.bxs.at (i := 2) rfl).2.1 | exact (E.bxs.at (i := 3) rfl).2.1 | exact (E.bxs.at (i := 4) rfl).2.1 | exact (E.bxs.at (i := 5) rfl).2.1 | exact (E.bxs.at (i := 6) rfl).2.1 | exact (E.bxs.at (i := 7) rfl).2.1 | exact (E.bxs.at (i := 8) rfl).2.1 | exact (E.bxs.at (i := 9) rfl).2.1) Tryz.underlying77 rfl (by kernel_rfl) (.tmp .nil))) rfl ?_
                            rw [hno.out]
                            exact ⟨E.below, RZ.no⟩
                      · have hjb : decide (j < (n : Int)) = false := decide_eq_false hj
                        (try have hje : decide (j < e) = false := decide_eq_false (by omega))
                        have hfin := Aside0.mk (INV2.out.fin (by rw [HPL.out]; exact hj))
                        have hn := Aside0.mk (INV.out.next he (by have := HS.out; have := (cutm_spec HC.out).2.2; rw [bytesOf_len]; omega) (by rw [← HPP.out]; exact hfin.out.1))
                        rw [hw] at hn
                        clear hj
                        go_wp2_with (at_builtin; refine app32 (w := wc) (v := u6) (l := d) (y := x) (by rfl) (by rfl) (by rfl) (by rfl) HO2.out HB2.out (by have h1 := INV.out.2.2.1; have h2 := HS.out; have h3 := (cutm_spec HC.out).2.2; rw [bytesOf_len] at h1; omega) ?_; clear HB HO; intro v1 w1 ho hb; have HO := Aside0.mk ho; have HB := Aside0.mk hb; clear ho hb)
                        rw [hfin.out.2, HPP.out] at HO
                        go_roundg (e - 9).toNat
                        case measure => exact hn.out.1
                        case rel => exact ⟨_, _, rfl, ⟨by first | exact hn.out.2 | (rw [hw]; exact hn.out.2)⟩, HO, HB⟩)
            · have heb : decide (0 < e) = false := decide_eq_false he
              have hfin := Aside0.mk (INV.out.fin he)
              have DD := Dg.of_R HO.out
              obtain ⟨A', c', rfl, h4, h5⟩ := DD
              replace E := E.dg (Dg.of_R HO.out)
              clear h4 h5 he HO INV
              go_wp2_with (first | ((with_reducible refine gate_stored (t := 77) (by rfl) ?_); refine st_ (fun ws hs_ => ?_); replace E := Env.pt2 hs_ E; clear hs_; have hc_ := E.cls; (repeat (obtain ⟨c_, f_, hc_⟩ := hc_)); clear hc_) | (go_at_call 153; refine env_call E (signed_calls E.getD hfin.out.2.1) ?_; clear E; rintro e wc E ⟨br, Ar, nr, cr, rfl, hw_⟩; replace E := E.wh hw_; clear hw_; have hc_ := E.cls; (repeat (obtain ⟨c_, f_, hc_⟩ := hc_)); clear hc_))
              refine bodyPost_ret (results_list (rs := [.cell _ 77, .tmp _]) rfl (by simp) (.cell _ _ _ (0, 0) _ rfl (by first | exact (E.bxs.at (i := 0) rfl).2.1 | exact (E.bxs.at (i := 1) rfl).2.1 | exact (E.bxs.at (i := 2) rfl).2.1 | exact (E.bxs.at (i := 3) rfl).2.1 | exact (E.bxs.at (i := 4) rfl).2.1 | exact (E.bxs.at (i := 5) rfl).2.1 | exact (E.bxs.at (i := 6) rfl).2.1 | exact (E.bxs.at (i := 7) rfl).2.1 | exact (E.bxs.at (i := 8) rfl).2.1 | exact (E.bxs.at (i := 9) rfl).2.1) Tryz.underlying77 rfl (by kernel_rfl) (.tmp .nil))) rfl ?_
              have hs := cutm_spec HC.out
              rw [hs.1, int?_cut _ _ hs.2.1, if_neg HG.out, if_pos hfin.out.1, ← hfin.out.2.2]
              exact ⟨E.below, _, _, _, _, rfl, E.getW⟩)
end Go.Proofs.YtfmcgammhfdfnaaGreatDoor.PRatio
namespace Go.Proofs.YtfmcgammhfdfnaaGreatDoor.PRatio
open Go.RowKit Go.Proofs.YtfmcgammhfdfnaaGreatDoorW.PrintWords
set_option linter.unusedVariables false
set_option linter.unusedSimpArgs false
theorem ib_cases (l : List UInt8) (c : UInt8) : (Lib.indexByte l c = -1 ∧ c ∉ l) ∨ ∃ i : Nat, Lib.indexByte l c = i ∧ i < l.length ∧ c ∉ l.take i ∧ l[i]? = some c := by
  induction l with
  | nil => exact .inl ⟨rfl, by simp⟩
  | cons b l ih =>
    unfold Lib.indexByte
    by_cases h : b = c
    · subst h
      exact .inr ⟨0, by simp, by simp, by simp, by simp⟩
    · have h' : ¬ c = b := fun e => h e.symm
      rcases ih with ⟨e, hm⟩ | ⟨i, e, hi, hm, hx⟩
      · exact .inl ⟨by simp [h, e], by simp [h', hm]⟩
      · refine .inr ⟨i + 1, ?_, by simp; omega, by simp [h', hm], by simpa using hx⟩
        rw [e]
        have : ¬ ((i : Int) = -1) := by omega
        simp [h, this]
structure CutAt (s : ByteArray) (c : UInt8) (a b : ByteArray) (f : Bool) : Prop where
  yes : f = true → bytesOf s = bytesOf a ++ (c.toNat : Int) :: bytesOf b
  no : f = false → a = s ∧ b = ⟨#[]⟩ ∧ (c.toNat : Int) ∉ bytesOf s
  out : f = true → (c.toNat : Int) ∉ bytesOf a
theorem mem_bytes {l : List UInt8} {c : UInt8} : (c.toNat : Int) ∈ l.map (fun b => (b.toNat : Int)) ↔ c ∈ l := by
  rw [List.mem_map]
  constructor
  · rintro ⟨x, hx, e⟩
    have : x = c := UInt8.toNat_inj.1 (by omega)
    exact this ▸ hx
  · exact fun h => ⟨c, h, rfl⟩
theorem bytesOf_size (s : ByteArray) : (bytesOf s).length = s.size := by
  unfold bytesOf
  rw [List.length_map, Array.length_toList]
  rfl
theorem cutAt_no {s : ByteArray} {c : UInt8} (h : c ∉ s.data.toList) : CutAt s c s ⟨#[]⟩ false := ⟨fun h => (by cases h), fun _ => ⟨rfl, rfl, fun hm => h (mem_bytes.1 hm)⟩, fun h => (by cases h)⟩
theorem cutAt_yes {s : ByteArray} {c : UInt8} {i : Nat} (hi : i < s.data.toList.length) (h : c ∉ s.data.toList.take i) (hx : s.data.toList[i]? = some c) : CutAt s c (s.extract 0 i) (s.extract (i + 1) s.size) true := by
  have e1 : bytesOf (s.extract 0 i) = (bytesOf s).take i := by rw [bytesOf_extract, List.drop_zero]
  have e2 : bytesOf (s.extract (i + 1) s.size) = (bytesOf s).drop (i + 1) := by rw [bytesOf_extract, ← bytesOf_size s, List.take_length]
  refine ⟨fun _ => ?_, fun h => (by cases h), fun _ => ?_⟩
  · rw [e1, e2]
    have hb : (bytesOf s)[i]? = some (c.toNat : Int) := by
      unfold bytesOf
      rw [List.getElem?_map, hx]
      rfl
    obtain ⟨h1, h2⟩ := List.getElem?_eq_some_iff.1 hb
    rw [← h2, ← List.drop_eq_getElem_cons h1, List.take_append_drop]
  · rw [e1]
    unfold bytesOf
    rw [← List.map_take]
    exact fun hm => h (mem_bytes.1 hm)
theorem rat?_cut {s a b : ByteArray} {f : Bool} (h : CutAt s 47 a b f) : rat? (bytesOf s) =
    if f = true then (match int? (bytesOf a), int? (bytesOf b) with
      | some n, some d => if n ≠ 0 ∧ 1 < d ∧ n.gcd d = 1 then some (mkRat n d.toNat) else none
      | _, _ => none)
    else (int? (bytesOf a)).map fun z : Int => (z : Rat) := by
  cases f with
  | false =>
    obtain ⟨rfl, rfl, hn⟩ := h.no rfl
    have hn' : (47 : Int) ∉ bytesOf a := hn
    rw [rat?, if_neg hn', if_neg (by decide)]
  | true =>
    have e := h.yes rfl
    have ho := h.out rfl
    have e' : bytesOf s = bytesOf a ++ 47 :: bytesOf b := e
    have ho' : (47 : Int) ∉ bytesOf a := ho
    rw [rat?, e', if_pos (by simp), cut_take ho', cut_drop ho', if_pos rfl]
    rfl
theorem CutAt.size {s : ByteArray} {c : UInt8} {a b : ByteArray} {f : Bool} (h : CutAt s c a b f) : a.size ≤ s.size ∧ b.size ≤ s.size := by
  cases f with
  | false =>
    obtain ⟨rfl, rfl, hn⟩ := h.no rfl
    exact ⟨Nat.le_refl _, Nat.zero_le _⟩
  | true =>
    have := congrArg List.length (h.yes rfl)
    rw [List.length_append, List.length_cons, bytesOf_size, bytesOf_size, bytesOf_size] at this
    omega
theorem cut_uniq {c : Int} : ∀ {a b a' b' : List Int}, c ∉ a → c ∉ a' → a ++ c :: b = a' ++ c :: b' → a = a' ∧ b = b'
  | [], b, [], b', _, _, h => ⟨rfl, by simpa using h⟩
  | [], b, y :: a', b', _, h', h => by simp at h; exact absurd (h.1 ▸ List.mem_cons_self) h'
  | x :: a, b, [], b', h1, _, h => by simp at h; exact absurd (h.1 ▸ List.mem_cons_self) h1
  | x :: a, b, y :: a', b', h1, h2, h => by
    simp at h
    have := cut_uniq (fun hm => h1 (List.mem_cons_of_mem _ hm)) (fun hm => h2 (List.mem_cons_of_mem _ hm)) h.2
    exact ⟨by rw [h.1, this.1], this.2⟩
theorem CutAt.uniq {s : ByteArray} {c : UInt8} {a b a' b' : ByteArray} {f f' : Bool} (h : CutAt s c a b f) (h' : CutAt s c a' b' f') : a = a' ∧ b = b' ∧ f = f' := by
  cases f <;> cases f'
  · obtain ⟨rfl, rfl, _⟩ := h.no rfl
    obtain ⟨rfl, rfl, _⟩ := h'.no rfl
    exact ⟨rfl, rfl, rfl⟩
  · have := h'.yes rfl
    exact absurd (by rw [this]; simp) (h.no rfl).2.2
  · have := h.yes rfl
    exact absurd (by rw [this]; simp) (h'.no rfl).2.2
  · have := cut_uniq (h.out rfl) (h'.out rfl) ((h.yes rfl).symm.trans (h'.yes rfl))
    exact ⟨bytesOf_inj this.1, bytesOf_inj this.2, rfl⟩
theorem cut_ex (s : ByteArray) (c : UInt8) : ∃ a b f, CutAt s c a b f := by
  rcases ib_cases s.data.toList c with ⟨h, hm⟩ | ⟨i, h, hi, hm, hx⟩
  · exact ⟨_, _, _, cutAt_no hm⟩
  · exact ⟨_, _, _, cutAt_yes hi hm hx⟩
end Go.Proofs.YtfmcgammhfdfnaaGreatDoor.PRatio
namespace Go.Proofs.YtfmcgammhfdfnaaGreatDoor.PRatio
open Go.RowKit Go.Proofs.YtfmcgammhfdfnaaGreatDoorW.PrintWords Go.Proofs.YtfmcgammhfdfnaaGreatDoorW.PrintLast Go.Proofs.YtfmcgammhfdfnaaGreatDoorW.PrintMore
set_option linter.unusedVariables false
set_option linter.unusedSimpArgs false
set_option maxHeartbeats 8000000
set_option maxRecDepth 100000
theorem ixb_calls (s : ByteArray) (c : Int) (w : World) : Calls Tryz.prog 193 #[.string s, .int .u8 c] w fun e w' => e = .returned (.int .i64 (Lib.indexByte s.data.toList c.toNat.toUInt8)) ∧ w' = w := by
  go_enter Tryz.func193, Tryz.ntmps193
  go_wp2
  rw [run_callFunc_extern Tryz.func203 (by kernel_rfl) (by kernel_rfl) (by kernel_rfl) (e := Extern.BytealgIndexByte.indexByte) (by kernel_rfl), Lib.run_indexByteString]
  simp only [Result.andThen]
  rw [Oper.upon_value]
  go_wp2
  go_ret
  exact ⟨rfl, rfl⟩
theorem ix_calls (s : ByteArray) (c : UInt8) (w : World) : Calls Tryz.prog 176 #[.string s, .string ⟨#[c]⟩] w fun e w' => e = .returned (.int .i64 (Lib.indexByte s.data.toList c)) ∧ w' = w := by
  go_enter Tryz.func176, Tryz.ntmps176
  go_wp2_with (go_at_call 193; refine (ixb_calls _ _ _).mono ?_; rintro e w' ⟨rfl, rfl⟩)
  · have h : ([c] == s.toList) = true := by assumption
    go_ret
    refine ⟨?_, rfl⟩
    have e : s.data.toList = [c] := by rw [← Lib.toList_data]; exact (beq_iff_eq.1 h).symm
    rw [e]
    simp [Lib.indexByte]
  · go_ret
    exact ⟨rfl, rfl⟩
def RC (s : ByteArray) (c : UInt8) (e : Ending) (w' : World) : Prop := ∃ a b f, CutAt s c a b f ∧ e = .returned (.tuple #[.string a, .string b, .bool f])
theorem slcut_calls (W : World) (s : ByteArray) (c : UInt8) (hs : s.size ≤ 9000000000000) : Calls Tryz.prog 144 #[.string s, .string ⟨#[c]⟩] W fun e w' => Below W.heap.size W w' ∧ RC s c e w' := by
  have E := Env.start W
  rcases ib_cases s.data.toList c with ⟨h, hm⟩ | ⟨i, h, hi, hm, hx⟩
  · go_enter Tryz.func144, Tryz.ntmps144
    go_wp2_with (go_at_call 176; refine (ix_calls _ _ _).mono ?_; rintro e w' ⟨rfl, rfl⟩; rw [h])
    refine bodyPost_ret (results_list (rs := [.tmp _, .tmp _, .tmp _]) rfl (by simp) (.tmp (.tmp (.tmp .nil)))) rfl ?_
    exact ⟨E.below, _, _, _, cutAt_no hm, rfl⟩
  · have HX := Aside0.mk (cutAt_yes hi hm hx)
    have hi' : i < s.size := by rw [← bytesOf_size]; unfold bytesOf; rw [List.length_map]; exact hi
    have c1 : (0 : Int) ≤ (i : Int) := by omega
    have c2 : ((i : Int) ≤ (s.size : Int)) = True := eq_true (by omega)
    have c3 : (0 : Int) ≤ (i : Int) + 1 := by omega
    have c4 : ((i : Int) + 1 ≤ (s.size : Int)) = True := eq_true (by omega)
    have c5 : wrap64 ((i : Int) + 1) = (i : Int) + 1 := wrap_id (by omega) (by omega)
    have c6 : ((i : Int) + 1).toNat = i + 1 := by omega
    clear hm hx hi hi'
    go_enter Tryz.func144, Tryz.ntmps144
    go_wp2_with (first | (go_at_call 176; refine (ix_calls _ _ _).mono ?_; rintro e w' ⟨rfl, rfl⟩; rw [h]) | (refine start_ (id := 3) (n := 12) (S := fun w' => Cls w' _) (ds := []) (bz 12 0) (by kernel_rfl) rfl rfl E.draw.cls (fun hHeld => ?_); replace E := E.draw; refine pu_ 0 (some 13) (bz 12 1) ?_; refine pu_ 1 (some 14) (bz 12 3) ?_; refine pu_ 2 (some 15) (bz 12 7) ?_; refine pu_ 3 (some 16) (bz 12 15) ?_; refine pu_ 4 (some 17) (bz 12 31) ?_; refine pu_ 5 (some 18) (bz 12 63) ?_; refine pu_ 6 (some 19) (bz 12 127) ?_; refine pu_ 7 (some 20) (bz 12 255) ?_; refine pu_ 8 (some 21) (bz 12 511) ?_; refine pu_ 9 (some 4) (bz 12 1023) ?_; refine pu_ 10 (some 5) (bz 12 2047) ?_; refine pu_ 11 (some 6) (bz 12 4095) ?_; refine done_ (by kernel_rfl) ?_; all_goals (have hc_ := E.cls; (repeat (obtain ⟨c_, f_, hc_⟩ := hc_)); clear hc_)))
    refine bodyPost_ret (results_list (rs := [.tmp _, .tmp _, .tmp _]) rfl (by simp) (.tmp (.tmp (.tmp .nil)))) rfl ?_
    exact ⟨E.below, _, _, _, HX.out, rfl⟩
theorem cut_calls (W : World) (s : ByteArray) (c : UInt8) (hs : s.size ≤ 9000000000000) : Calls Tryz.prog 80 #[.string s, .string ⟨#[c]⟩] W fun e w' => Below W.heap.size W w' ∧ RC s c e w' := by
  have E := Env.start W
  go_enter Tryz.func80, Tryz.ntmps80
  go_wp2_with (go_at_call 144; refine env_call E (slcut_calls _ s c hs) ?_; clear E; rintro e wc E ⟨a, b, f, hc, rfl⟩)
  refine bodyPost_ret (results_list (rs := [.tmp _, .tmp _, .tmp _]) rfl (by simp) (.tmp (.tmp (.tmp .nil)))) rfl ?_
  exact ⟨E.below, _, _, _, hc, rfl⟩
theorem cut_of (W : World) {s a b : ByteArray} {c : UInt8} {f : Bool} (h : CutAt s c a b f) (hs : s.size ≤ 9000000000000) : Calls Tryz.prog 80 #[.string s, .string ⟨#[c]⟩] W fun e w' => Below W.heap.size W w' ∧ e = .returned (.tuple #[.string a, .string b, .bool f]) :=
  (cut_calls W s c hs).mono fun e w' ⟨hb, a', b', f', h', e'⟩ => ⟨hb, by obtain ⟨rfl, rfl, rfl⟩ := h.uniq h'; exact e'⟩
end Go.Proofs.YtfmcgammhfdfnaaGreatDoor.PRatio
namespace Go.Proofs.YtfmcgammhfdfnaaGreatDoor.PRatio
open Go.RowKit Go.Proofs.YtfmcgammhfdfnaaGreatDoorW.PrintWords Go.Proofs.YtfmcgammhfdfnaaGreatDoorW.PrintLast Go.Proofs.YtfmcgammhfdfnaaGreatDoorW.PrintMore
set_option linter.unusedVariables false
set_option linter.unusedSimpArgs false
set_option maxHeartbeats 8000000
set_option maxRecDepth 100000
theorem nd_tx (z : Int) : nd z.natAbs ≤ (tx z).length := by
  have key : ∀ y : Int, 0 ≤ y → nd y.natAbs ≤ (ntx y).length := by
    intro y hy
    unfold ntx sg
    rw [List.length_reverse, List.length_map]
    split
    next h => subst h; simp [nd_zero]
    next h => rw [nd, show y.natAbs = y.toNat by omega]; exact Nat.le_refl _
  unfold tx
  split
  · have := key (-z) (by omega)
    rw [Int.natAbs_neg] at this
    rw [List.length_cons]
    omega
  · exact key z (by omega)
theorem ln_nd {z : Int} {k : Nat} (h : nd z.natAbs ≤ k) : Ln z ((k + 8) / 9) := by
  have h1 := (nd_le k z.natAbs).1 h
  refine dg_abs_len ?_
  have h2 : (10 : Nat) ^ k ≤ 1000000000 ^ ((k + 8) / 9) := by
    rw [show (1000000000 : Nat) = 10 ^ 9 from rfl, ← Nat.pow_mul]
    exact Nat.pow_le_pow_right (by decide) (by omega)
  have h3 : z.natAbs < 1000000000 ^ ((k + 8) / 9) := Nat.lt_of_lt_of_le h1 h2
  have h4 : ((z.natAbs : Nat) : Int) < ((1000000000 ^ ((k + 8) / 9) : Nat) : Int) := Int.ofNat_lt.2 h3
  rw [Int.natCast_pow] at h4
  exact h4
theorem ln_short {z : Int} (h : Lg z = false) : Ln z 112 := by
  have : ¬ 1000 < nd z.natAbs := of_decide_eq_false h
  exact (ln_nd (k := 1000) (by omega)).mono (by omega)
theorem ln_text {s : ByteArray} {z : Int} (h : int? (bytesOf s) = some z) (hs : s.size ≤ 9000000000000) : Ln z 1000000000000 := by
  have h1 := nd_tx z
  rw [← int?_eq h, bytesOf_size] at h1
  exact (ln_nd h1).mono (by omega)
theorem read_some (W : World) {s : ByteArray} {z : Int} (h : int? (bytesOf s) = some z) (hs : s.size ≤ 9000000000000) : Calls Tryz.prog 95 #[.string s] W fun e w' => Below W.heap.size W w' ∧ ∃ b A n c, e = .returned (.tuple #[.agg #[.bool b, .slice A n c], .bool true]) ∧ Wh w' b (.slice A n c) z := by
  have := read_calls W s hs
  rw [h] at this
  exact this
theorem read_none (W : World) {s : ByteArray} (h : int? (bytesOf s) = none) (hs : s.size ≤ 9000000000000) : Calls Tryz.prog 95 #[.string s] W fun e w' => Below W.heap.size W w' ∧ ∃ b A n c, e = .returned (.tuple #[.agg #[.bool b, .slice A n c], .bool false]) ∧ Wh w' b (.slice A n c) 0 := by
  have := read_calls W s hs
  rw [h] at this
  exact this
def RZQ (o : Option Rat) (e : Ending) (w' : World) : Prop := ∃ b A x c b' A' x' c' z z', e = .returned (.tuple #[.agg #[.bool b, .slice A x c, .bool b', .slice A' x' c'], .bool o.isSome]) ∧ Wh w' b (.slice A x c) z ∧ Wh w' b' (.slice A' x' c') z' ∧ ∀ q, o = some q → z = q.num ∧ z' = q.den
theorem RZQ.no {W : World} {b b' : Bool} {A A' : Option Addr} {n c n' c' : Nat} {z z' : Int} (h : Wh W b (.slice A n c) z) (h' : Wh W b' (.slice A' n' c') z') : RZQ none (.returned (.tuple #[.agg #[.bool b, .slice A n c, .bool b', .slice A' n' c'], .bool false])) W :=
  ⟨_, _, _, _, _, _, _, _, _, _, rfl, h, h', fun q h => (by cases h)⟩
theorem RZQ.yes {W : World} {q : Rat} {b b' : Bool} {A A' : Option Addr} {n c n' c' : Nat} {z z' : Int} (h : Wh W b (.slice A n c) z) (h' : Wh W b' (.slice A' n' c') z') (e : z = q.num) (e' : z' = q.den) : RZQ (some q) (.returned (.tuple #[.agg #[.bool b, .slice A n c, .bool b', .slice A' n' c'], .bool true])) W :=
  ⟨_, _, _, _, _, _, _, _, _, _, rfl, h, h', fun r h => (by cases h; exact ⟨e, e'⟩)⟩
theorem mk_nd {n d : Int} (h1 : 1 < d) (h3 : n.gcd d = 1) : n = (mkRat n d.toNat).num ∧ d = ((mkRat n d.toNat).den : Int) := by
  have hg : d.toNat.gcd n.natAbs = 1 := by
    rw [Nat.gcd_comm]
    simpa [Int.gcd, show d.natAbs = d.toNat by omega] using h3
  rw [Rat.num_mkRat, if_neg (by omega), Rat.den_mkRat, if_neg (by omega), hg]
  simp
  omega
theorem readrat_calls (W : World) (s : ByteArray) (hs : s.size ≤ 9000000000000) : Calls Tryz.prog 162 #[.string s] W fun e w' => Below W.heap.size W w' ∧ RZQ (rat? (bytesOf s)) e w' := by
  have E := Env.start W
  obtain ⟨s1, s2, f, hc⟩ := cut_ex s 47
  have hsz := hc.size
  have HC := Aside0.mk hc
  have HS := Aside0.mk hs
  have HS1 := Aside0.mk (show s1.size ≤ 9000000000000 by omega)
  have HS2 := Aside0.mk (show s2.size ≤ 9000000000000 by omega)
  rw [rat?_cut hc]
  clear hc hsz hs
  cases h1 : int? (bytesOf s1) with
  | none =>
    have H1 := Aside0.mk h1
    clear h1
    rw [show (if f = true then (match (none : Option Int), int? (bytesOf s2) with | some n, some d => if n ≠ 0 ∧ 1 < d ∧ n.gcd d = 1 then some (mkRat n d.toNat) else none | _, _ => none) else (none : Option Int).map fun z : Int => (z : Rat)) = none by split <;> rfl]
    go_enter Tryz.func162, Tryz.ntmps162
    go_wp2_with (first | ((with_reducible first | refine gate_box (by rfl) ?_ | refine gate_alloc (by rfl) ?_); refine bx_ E ?_; clear E; intro gb wb E; have hc_ := E.cls; (repeat (obtain ⟨c_, f_, hc_⟩ := hc_)); clear hc_) | (go_at_call 80; refine env_call E (cut_of _ HC.out HS.out) ?_; clear E; rintro e wc E rfl; have hc_ := E.cls; (repeat (obtain ⟨c_, f_, hc_⟩ := hc_)); clear hc_) | (go_at_call 95; refine env_call E (read_none _ H1.out HS1.out) ?_; clear E; rintro e wc E ⟨br, Ar, nr, cr, rfl, hw_⟩; replace E := E.wh hw_; clear hw_; have hc_ := E.cls; (repeat (obtain ⟨c_, f_, hc_⟩ := hc_)); clear hc_) | ((with_reducible refine gate_stored (t := 77) (by rfl) ?_); refine st_ (fun ws hs_ => ?_); replace E := Env.pt2 hs_ E; clear hs_; have hc_ := E.cls; (repeat (obtain ⟨c_, f_, hc_⟩ := hc_)); clear hc_) | ((with_reducible refine gate_stored (t := 84) (by rfl) ?_); refine st_ (fun ws hs_ => ?_); replace E := Env.pt4 hs_ E; clear hs_; have hc_ := E.cls; (repeat (obtain ⟨c_, f_, hc_⟩ := hc_)); clear hc_) | (refine start_ (id := 4) (n := 6) (S := fun w' => Cls w' _) (ds := [4]) (bz 6 0) (by kernel_rfl) rfl rfl E.draw.cls (fun hHeld => ?_); replace E := E.draw; refine pu_ 3 (some 30) (bz 6 8) ?_; refine ta_ 0 (some 27) (bz 6 9) hHeld ?_; refine on_ 1 (some 28) (bz 6 11) (fun K hK => ?_); refine gs_ Tryz.func121 ?_; refine env_call E (of_calls (n := 1) (by omega) (by omega)) ?_; clear E; rintro e wc E ⟨br, Ar, nr, cr, rfl, hw_⟩; replace E := E.wh hw_; clear hw_; refine ⟨_, rfl, ?_⟩; refine hK.out _ _ E.cls (fun hHeld => ?_); clear hK K; refine nm_ (some 28) ?_; refine pu_ 2 (some 29) (bz 6 15) ?_; refine la_ 4 (none) (bz 6 31) (fun K hK => ?_); have hc_ := E.cls; (repeat (obtain ⟨c_, f_, hc_⟩ := hc_)); clear hc_; refine sk_ (fun ws hs_ => ?_); replace E := Env.pt4 hs_ E; clear hs_; refine hK.out _ _ ?_; clear hK K; have hc_ := E.cls; (repeat (obtain ⟨c_, f_, hc_⟩ := hc_)); clear hc_; refine pu_ 5 (some 3) (bz 6 63) ?_; refine done_ (by kernel_rfl) ?_; all_goals (have hc_ := E.cls; (repeat (obtain ⟨c_, f_, hc_⟩ := hc_)); clear hc_)))
    refine bodyPost_ret (results_list (rs := [.cell _ 84, .tmp _]) rfl (by simp) (.cell _ _ _ (0, 0) _ rfl (by first | exact (E.bxs.at (i := 0) rfl).2.1 | exact (E.bxs.at (i := 1) rfl).2.1 | exact (E.bxs.at (i := 2) rfl).2.1 | exact (E.bxs.at (i := 3) rfl).2.1 | exact (E.bxs.at (i := 4) rfl).2.1 | exact (E.bxs.at (i := 5) rfl).2.1 | exact (E.bxs.at (i := 6) rfl).2.1 | exact (E.bxs.at (i := 7) rfl).2.1 | exact (E.bxs.at (i := 8) rfl).2.1 | exact (E.bxs.at (i := 9) rfl).2.1) Tryz.underlying84 rfl (by kernel_rfl) (.tmp .nil))) rfl ?_
    exact ⟨E.below, RZQ.no E.getW E.getW⟩
  | some n =>
    have H1 := Aside0.mk h1
    clear h1
    cases f with
    | false =>
      rw [if_neg (by decide)]
      go_enter Tryz.func162, Tryz.ntmps162
      go_wp2_with (first | ((with_reducible first | refine gate_box (by rfl) ?_ | refine gate_alloc (by rfl) ?_); refine bx_ E ?_; clear E; intro gb wb E; have hc_ := E.cls; (repeat (obtain ⟨c_, f_, hc_⟩ := hc_)); clear hc_) | (go_at_call 80; refine env_call E (cut_of _ HC.out HS.out) ?_; clear E; rintro e wc E rfl; have hc_ := E.cls; (repeat (obtain ⟨c_, f_, hc_⟩ := hc_)); clear hc_) | (go_at_call 95; refine env_call E (read_some _ H1.out HS1.out) ?_; clear E; rintro e wc E ⟨br, Ar, nr, cr, rfl, hw_⟩; replace E := E.wh hw_; clear hw_; have hc_ := E.cls; (repeat (obtain ⟨c_, f_, hc_⟩ := hc_)); clear hc_) | ((with_reducible refine gate_stored (t := 77) (by rfl) ?_); refine st_ (fun ws hs_ => ?_); replace E := Env.pt2 hs_ E; clear hs_; have hc_ := E.cls; (repeat (obtain ⟨c_, f_, hc_⟩ := hc_)); clear hc_) | ((with_reducible refine gate_stored (t := 84) (by rfl) ?_); refine st_ (fun ws hs_ => ?_); replace E := Env.pt4 hs_ E; clear hs_; have hc_ := E.cls; (repeat (obtain ⟨c_, f_, hc_⟩ := hc_)); clear hc_) | (refine start_ (id := 4) (n := 6) (S := fun w' => Cls w' _) (ds := [4]) (bz 6 0) (by kernel_rfl) rfl rfl E.draw.cls (fun hHeld => ?_); replace E := E.draw; refine pu_ 3 (some 30) (bz 6 8) ?_; refine ta_ 0 (some 27) (bz 6 9) hHeld ?_; refine on_ 1 (some 28) (bz 6 11) (fun K hK => ?_); refine gs_ Tryz.func121 ?_; refine env_call E (of_calls (n := 1) (by omega) (by omega)) ?_; clear E; rintro e wc E ⟨br, Ar, nr, cr, rfl, hw_⟩; replace E := E.wh hw_; clear hw_; refine ⟨_, rfl, ?_⟩; refine hK.out _ _ E.cls (fun hHeld => ?_); clear hK K; refine nm_ (some 28) ?_; refine pu_ 2 (some 29) (bz 6 15) ?_; refine la_ 4 (none) (bz 6 31) (fun K hK => ?_); have hc_ := E.cls; (repeat (obtain ⟨c_, f_, hc_⟩ := hc_)); clear hc_; refine sk_ (fun ws hs_ => ?_); replace E := Env.pt4 hs_ E; clear hs_; refine hK.out _ _ ?_; clear hK K; have hc_ := E.cls; (repeat (obtain ⟨c_, f_, hc_⟩ := hc_)); clear hc_; refine pu_ 5 (some 3) (bz 6 63) ?_; refine done_ (by kernel_rfl) ?_; all_goals (have hc_ := E.cls; (repeat (obtain ⟨c_, f_, hc_⟩ := hc_)); clear hc_)))
      refine bodyPost_ret (results_list (rs := [.cell _ 84, .tmp _]) rfl (by simp) (.cell _ _ _ (0, 0) _ rfl (by first | exact (E.bxs.at (i := 0) rfl).2.1 | exact (E.bxs.at (i := 1) rfl).2.1 | exact (E.bxs.at (i := 2) rfl).2.1 | exact (E.bxs.at (i := 3) rfl).2.1 | exact (E.bxs.at (i := 4) rfl).2.1 | exact (E.bxs.at (i := 5) rfl).2.1 | exact (E.bxs.at (i := 6) rfl).2.1 | exact (E.bxs.at (i := 7) rfl).2.1 | exact (E.bxs.at (i := 8) rfl).2.1 | exact (E.bxs.at (i := 9) rfl).2.1) Tryz.underlying84 rfl (by kernel_rfl) (.tmp .nil))) rfl ?_
      exact ⟨E.below, RZQ.yes E.getW E.getW rfl rfl⟩
    | true =>
      rw [if_pos rfl]
      cases h2 : int? (bytesOf s2) with
      | none =>
        have H2 := Aside0.mk h2
        clear h2
        go_enter Tryz.func162, Tryz.ntmps162
        go_wp2_with (first | ((with_reducible first | refine gate_box (by rfl) ?_ | refine gate_alloc (by rfl) ?_); refine bx_ E ?_; clear E; intro gb wb E; have hc_ := E.cls; (repeat (obtain ⟨c_, f_, hc_⟩ := hc_)); clear hc_) | (go_at_call 80; refine env_call E (cut_of _ HC.out HS.out) ?_; clear E; rintro e wc E rfl; have hc_ := E.cls; (repeat (obtain ⟨c_, f_, hc_⟩ := hc_)); clear hc_) | (go_at_call 95; refine env_call E (read_some _ H1.out HS1.out) ?_; clear E; rintro e wc E ⟨br, Ar, nr, cr, rfl, hw_⟩; replace E := E.wh hw_; clear hw_; have hc_ := E.cls; (repeat (obtain ⟨c_, f_, hc_⟩ := hc_)); clear hc_) | (go_at_call 95; refine env_call E (read_none _ H2.out HS2.out) ?_; clear E; rintro e wc E ⟨br, Ar, nr, cr, rfl, hw_⟩; replace E := E.wh hw_; clear hw_; have hc_ := E.cls; (repeat (obtain ⟨c_, f_, hc_⟩ := hc_)); clear hc_) | ((with_reducible refine gate_stored (t := 77) (by rfl) ?_); refine st_ (fun ws hs_ => ?_); replace E := Env.pt2 hs_ E; clear hs_; have hc_ := E.cls; (repeat (obtain ⟨c_, f_, hc_⟩ := hc_)); clear hc_) | ((with_reducible refine gate_stored (t := 84) (by rfl) ?_); refine st_ (fun ws hs_ => ?_); replace E := Env.pt4 hs_ E; clear hs_; have hc_ := E.cls; (repeat (obtain ⟨c_, f_, hc_⟩ := hc_)); clear hc_) | (refine start_ (id := 6) (n := 21) (S := fun w' => Cls w' _) (ds := []) (bz 21 0) (by kernel_rfl) rfl rfl E.draw.cls (fun hHeld => ?_); replace E := E.draw; refine pu_ 0 (some 36) (bz 21 1) ?_; refine pu_ 1 (some 37) (bz 21 3) ?_; refine pu_ 2 (some 38) (bz 21 7) ?_; (first | (refine ta_ 3 (some 39) (bz 21 15) hHeld ?_) | (refine po_ 3 (some 39) (bz 21 15) ?_)); refine on_ 4 (some 40) (bz 21 31) (fun K hK => ?_); (first | (refine off_ (by rfl) ?_; refine hK.out _ _ E.cls (fun hHeld => ?_); clear hK K) | (refine gs_ Tryz.func84 ?_; refine env_call E (sign_calls E.getW) ?_; clear E; rintro e wc E rfl; refine ⟨_, rfl, ?_⟩; refine hK.out _ _ E.cls (fun hHeld => ?_); clear hK K)); refine nm_ (some 40) ?_; (first | (refine pu_ 5 (some 41) (bz 21 63) ?_) | (refine po_ 5 (some 41) (bz 21 63) ?_)); refine pu_ 6 (some 42) (bz 21 127) ?_; refine pu_ 7 (some 43) (bz 21 255) ?_; (first | (refine ta_ 8 (some 44) (bz 21 511) hHeld ?_) | (refine po_ 8 (some 44) (bz 21 511) ?_)); refine on_ 9 (some 45) (bz 21 1023) (fun K hK => ?_); (first | (refine off_ (by rfl) ?_; refine hK.out _ _ E.cls (fun hHeld => ?_); clear hK K) | (refine gs_ Tryz.func121 ?_; refine env_call E (of_calls (n := 1) (by omega) (by omega)) ?_; clear E; rintro e wc E ⟨br, Ar, nr, cr, rfl, hw_⟩; replace E := E.wh hw_; clear hw_; refine ⟨_, rfl, ?_⟩; refine hK.out _ _ E.cls (fun hHeld => ?_); clear hK K)); refine nm_ (some 45) ?_; refine on_ 10 (some 46) (bz 21 2047) (fun K hK => ?_); (first | (refine off_ (by rfl) ?_; refine hK.out _ _ E.cls (fun hHeld => ?_); clear hK K) | (refine gs_ Tryz.func141 ?_; refine env_call E (cmp_calls E.getW E.getW) ?_; clear E; rintro e wc E rfl; refine ⟨_, rfl, ?_⟩; refine hK.out _ _ E.cls (fun hHeld => ?_); clear hK K)); refine nm_ (some 46) ?_; (first | (refine pu_ 11 (some 47) (bz 21 4095) ?_) | (refine po_ 11 (some 47) (bz 21 4095) ?_)); refine pu_ 12 (some 48) (bz 21 8191) ?_; refine pu_ 13 (some 49) (bz 21 16383) ?_; (first | (refine ta_ 14 (some 50) (bz 21 32767) hHeld ?_) | (refine po_ 14 (some 50) (bz 21 32767) ?_)); (first | (refine ta_ 15 (some 51) (bz 21 65535) hHeld ?_) | (refine po_ 15 (some 51) (bz 21 65535) ?_)); refine on_ 16 (some 52) (bz 21 131071) (fun K hK => ?_); (first | (refine off_ (by rfl) ?_; refine hK.out _ _ E.cls (fun hHeld => ?_); clear hK K) | (refine gs_ Tryz.func155 ?_; refine env_call E (gcd_calls E.getW E.getW ((ln_text H1.out HS1.out).fits (by omega)) ((ln_text H2.out HS2.out).fits (by omega))) ?_; clear E; rintro e wc E ⟨br, Ar, nr, cr, rfl, hw_⟩; replace E := E.wh hw_; clear hw_; refine ⟨_, rfl, ?_⟩; refine hK.out _ _ E.cls (fun hHeld => ?_); clear hK K)); refine nm_ (some 52) ?_; refine on_ 17 (some 53) (bz 21 262143) (fun K hK => ?_); (first | (refine off_ (by rfl) ?_; refine hK.out _ _ E.cls (fun hHeld => ?_); clear hK K) | (refine gs_ Tryz.func121 ?_; refine env_call E (of_calls (n := 1) (by omega) (by omega)) ?_; clear E; rintro e wc E ⟨br, Ar, nr, cr, rfl, hw_⟩; replace E := E.wh hw_; clear hw_; refine ⟨_, rfl, ?_⟩; refine hK.out _ _ E.cls (fun hHeld => ?_); clear hK K)); refine nm_ (some 53) ?_; refine on_ 18 (some 54) (bz 21 524287) (fun K hK => ?_); (first | (refine off_ (by rfl) ?_; refine hK.out _ _ E.cls (fun hHeld => ?_); clear hK K) | (refine gs_ Tryz.func141 ?_; refine env_call E (cmp_calls E.getW E.getW) ?_; clear E; rintro e wc E rfl; refine ⟨_, rfl, ?_⟩; refine hK.out _ _ E.cls (fun hHeld => ?_); clear hK K)); refine nm_ (some 54) ?_; (first | (refine pu_ 19 (some 55) (bz 21 1048575) ?_) | (refine po_ 19 (some 55) (bz 21 1048575) ?_)); refine pu_ 20 (some 56) (bz 21 2097151) ?_; refine done_ (by kernel_rfl) ?_; all_goals (have hc_ := E.cls; (repeat (obtain ⟨c_, f_, hc_⟩ := hc_)); clear hc_)))
        refine bodyPost_ret (results_list (rs := [.cell _ 84, .tmp _]) rfl (by simp) (.cell _ _ _ (0, 0) _ rfl (by first | exact (E.bxs.at (i := 0) rfl).2.1 | exact (E.bxs.at (i := 1) rfl).2.1 | exact (E.bxs.at (i := 2) rfl).2.1 | exact (E.bxs.at (i := 3) rfl).2.1 | exact (E.bxs.at (i := 4) rfl).2.1 | exact (E.bxs.at (i := 5) rfl).2.1 | exact (E.bxs.at (i := 6) rfl).2.1 | exact (E.bxs.at (i := 7) rfl).2.1 | exact (E.bxs.at (i := 8) rfl).2.1 | exact (E.bxs.at (i := 9) rfl).2.1) Tryz.underlying84 rfl (by kernel_rfl) (.tmp .nil))) rfl ?_
        exact ⟨E.below, RZQ.no (Wh.zero _) (Wh.zero _)⟩
      | some d =>
        have H2 := Aside0.mk h2
        clear h2
        show Calls Tryz.prog 162 #[Value.string s] W fun e w' => Below W.heap.size W w' ∧ RZQ (if n ≠ 0 ∧ 1 < d ∧ n.gcd d = 1 then some (mkRat n d.toNat) else none) e w'
        by_cases c0 : n = 0
        · rw [if_neg (fun h => h.1 c0)]
          have k0 : (sgnI n == 0) = true := by rw [c0]; rfl
          clear c0
          go_enter Tryz.func162, Tryz.ntmps162
          go_wp2_with (first | ((with_reducible first | refine gate_box (by rfl) ?_ | refine gate_alloc (by rfl) ?_); refine bx_ E ?_; clear E; intro gb wb E; have hc_ := E.cls; (repeat (obtain ⟨c_, f_, hc_⟩ := hc_)); clear hc_) | (go_at_call 80; refine env_call E (cut_of _ HC.out HS.out) ?_; clear E; rintro e wc E rfl; have hc_ := E.cls; (repeat (obtain ⟨c_, f_, hc_⟩ := hc_)); clear hc_) | (go_at_call 95; refine env_call E (read_some _ H1.out HS1.out) ?_; clear E; rintro e wc E ⟨br, Ar, nr, cr, rfl, hw_⟩; replace E := E.wh hw_; clear hw_; have hc_ := E.cls; (repeat (obtain ⟨c_, f_, hc_⟩ := hc_)); clear hc_) | (go_at_call 95; refine env_call E (read_some _ H2.out HS2.out) ?_; clear E; rintro e wc E ⟨br, Ar, nr, cr, rfl, hw_⟩; replace E := E.wh hw_; clear hw_; have hc_ := E.cls; (repeat (obtain ⟨c_, f_, hc_⟩ := hc_)); clear hc_) | ((with_reducible refine gate_stored (t := 77) (by rfl) ?_); refine st_ (fun ws hs_ => ?_); replace E := Env.pt2 hs_ E; clear hs_; have hc_ := E.cls; (repeat (obtain ⟨c_, f_, hc_⟩ := hc_)); clear hc_) | ((with_reducible refine gate_stored (t := 84) (by rfl) ?_); refine st_ (fun ws hs_ => ?_); replace E := Env.pt4 hs_ E; clear hs_; have hc_ := E.cls; (repeat (obtain ⟨c_, f_, hc_⟩ := hc_)); clear hc_) | (refine start_ (id := 6) (n := 21) (S := fun w' => Cls w' _) (ds := []) (bz 21 0) (by kernel_rfl) rfl rfl E.draw.cls (fun hHeld => ?_); replace E := E.draw; refine pu_ 0 (some 36) (bz 21 1) ?_; refine pu_ 1 (some 37) (bz 21 3) ?_; refine pu_ 2 (some 38) (bz 21 7) ?_; (first | (refine ta_ 3 (some 39) (bz 21 15) hHeld ?_) | (refine po_ 3 (some 39) (bz 21 15) ?_)); refine on_ 4 (some 40) (bz 21 31) (fun K hK => ?_); (first | (refine off_ (by rfl) ?_; refine hK.out _ _ E.cls (fun hHeld => ?_); clear hK K) | (refine gs_ Tryz.func84 ?_; refine env_call E (sign_calls E.getW) ?_; clear E; rintro e wc E rfl; refine ⟨_, rfl, ?_⟩; refine hK.out _ _ E.cls (fun hHeld => ?_); clear hK K)); refine nm_ (some 40) ?_; (first | (refine pu_ 5 (some 41) (bz 21 63) ?_) | (refine po_ 5 (some 41) (bz 21 63) ?_)); refine pu_ 6 (some 42) (bz 21 127) ?_; refine pu_ 7 (some 43) (bz 21 255) ?_; (first | (refine ta_ 8 (some 44) (bz 21 511) hHeld ?_) | (refine po_ 8 (some 44) (bz 21 511) ?_)); refine on_ 9 (some 45) (bz 21 1023) (fun K hK => ?_); (first | (refine off_ (by rfl) ?_; refine hK.out _ _ E.cls (fun hHeld => ?_); clear hK K) | (refine gs_ Tryz.func121 ?_; refine env_call E (of_calls (n := 1) (by omega) (by omega)) ?_; clear E; rintro e wc E ⟨br, Ar, nr, cr, rfl, hw_⟩; replace E := E.wh hw_; clear hw_; refine ⟨_, rfl, ?_⟩; refine hK.out _ _ E.cls (fun hHeld => ?_); clear hK K)); refine nm_ (some 45) ?_; refine on_ 10 (some 46) (bz 21 2047) (fun K hK => ?_); (first | (refine off_ (by rfl) ?_; refine hK.out _ _ E.cls (fun hHeld => ?_); clear hK K) | (refine gs_ Tryz.func141 ?_; refine env_call E (cmp_calls E.getW E.getW) ?_; clear E; rintro e wc E rfl; refine ⟨_, rfl, ?_⟩; refine hK.out _ _ E.cls (fun hHeld => ?_); clear hK K)); refine nm_ (some 46) ?_; (first | (refine pu_ 11 (some 47) (bz 21 4095) ?_) | (refine po_ 11 (some 47) (bz 21 4095) ?_)); refine pu_ 12 (some 48) (bz 21 8191) ?_; refine pu_ 13 (some 49) (bz 21 16383) ?_; (first | (refine ta_ 14 (some 50) (bz 21 32767) hHeld ?_) | (refine po_ 14 (some 50) (bz 21 32767) ?_)); (first | (refine ta_ 15 (some 51) (bz 21 65535) hHeld ?_) | (refine po_ 15 (some 51) (bz 21 65535) ?_)); refine on_ 16 (some 52) (bz 21 131071) (fun K hK => ?_); (first | (refine off_ (by rfl) ?_; refine hK.out _ _ E.cls (fun hHeld => ?_); clear hK K) | (refine gs_ Tryz.func155 ?_; refine env_call E (gcd_calls E.getW E.getW ((ln_text H1.out HS1.out).fits (by omega)) ((ln_text H2.out HS2.out).fits (by omega))) ?_; clear E; rintro e wc E ⟨br, Ar, nr, cr, rfl, hw_⟩; replace E := E.wh hw_; clear hw_; refine ⟨_, rfl, ?_⟩; refine hK.out _ _ E.cls (fun hHeld => ?_); clear hK K)); refine nm_ (some 52) ?_; refine on_ 17 (some 53) (bz 21 262143) (fun K hK => ?_); (first | (refine off_ (by rfl) ?_; refine hK.out _ _ E.cls (fun hHeld => ?_); clear hK K) | (refine gs_ Tryz.func121 ?_; refine env_call E (of_calls (n := 1) (by omega) (by omega)) ?_; clear E; rintro e wc E ⟨br, Ar, nr, cr, rfl, hw_⟩; replace E := E.wh hw_; clear hw_; refine ⟨_, rfl, ?_⟩; refine hK.out _ _ E.cls (fun hHeld => ?_); clear hK K)); refine nm_ (some 53) ?_; refine on_ 18 (some 54) (bz 21 524287) (fun K hK => ?_); (first | (refine off_ (by rfl) ?_; refine hK.out _ _ E.cls (fun hHeld => ?_); clear hK K) | (refine gs_ Tryz.func141 ?_; refine env_call E (cmp_calls E.getW E.getW) ?_; clear E; rintro e wc E rfl; refine ⟨_, rfl, ?_⟩; refine hK.out _ _ E.cls (fun hHeld => ?_); clear hK K)); refine nm_ (some 54) ?_; (first | (refine pu_ 19 (some 55) (bz 21 1048575) ?_) | (refine po_ 19 (some 55) (bz 21 1048575) ?_)); refine pu_ 20 (some 56) (bz 21 2097151) ?_; refine done_ (by kernel_rfl) ?_; all_goals (have hc_ := E.cls; (repeat (obtain ⟨c_, f_, hc_⟩ := hc_)); clear hc_)))
          refine bodyPost_ret (results_list (rs := [.cell _ 84, .tmp _]) rfl (by simp) (.cell _ _ _ (0, 0) _ rfl (by first | exact (E.bxs.at (i := 0) rfl).2.1 | exact (E.bxs.at (i := 1) rfl).2.1 | exact (E.bxs.at (i := 2) rfl).2.1 | exact (E.bxs.at (i := 3) rfl).2.1 | exact (E.bxs.at (i := 4) rfl).2.1 | exact (E.bxs.at (i := 5) rfl).2.1 | exact (E.bxs.at (i := 6) rfl).2.1 | exact (E.bxs.at (i := 7) rfl).2.1 | exact (E.bxs.at (i := 8) rfl).2.1 | exact (E.bxs.at (i := 9) rfl).2.1) Tryz.underlying84 rfl (by kernel_rfl) (.tmp .nil))) rfl ?_
          exact ⟨E.below, RZQ.no (Wh.zero _) (Wh.zero _)⟩
        · have k0 : (sgnI n == 0) = false := beq_eq_false_iff_ne.mpr (fun h => c0 ((sgnI_zero n).1 h))
          by_cases c1 : 1 < d
          · have k1 : decide (sgnI (d - 1) ≤ 0) = false := decide_eq_false (by have := (sgnI_pos (d - 1)).2 (by omega); omega)
            by_cases c2 : n.gcd d = 1
            · rw [if_pos ⟨c0, c1, c2⟩]
              have k2 : (sgnI ((n.gcd d : Int) - 1) == 0) = true := by rw [c2]; rfl
              have HQ := Aside0.mk (mk_nd c1 c2)
              clear c0 c1 c2
              go_enter Tryz.func162, Tryz.ntmps162
              go_wp2_with (first | ((with_reducible first | refine gate_box (by rfl) ?_ | refine gate_alloc (by rfl) ?_); refine bx_ E ?_; clear E; intro gb wb E; have hc_ := E.cls; (repeat (obtain ⟨c_, f_, hc_⟩ := hc_)); clear hc_) | (go_at_call 80; refine env_call E (cut_of _ HC.out HS.out) ?_; clear E; rintro e wc E rfl; have hc_ := E.cls; (repeat (obtain ⟨c_, f_, hc_⟩ := hc_)); clear hc_) | (go_at_call 95; refine env_call E (read_some _ H1.out HS1.out) ?_; clear E; rintro e wc E ⟨br, Ar, nr, cr, rfl, hw_⟩; replace E := E.wh hw_; clear hw_; have hc_ := E.cls; (repeat (obtain ⟨c_, f_, hc_⟩ := hc_)); clear hc_) | (go_at_call 95; refine env_call E (read_some _ H2.out HS2.out) ?_; clear E; rintro e wc E ⟨br, Ar, nr, cr, rfl, hw_⟩; replace E := E.wh hw_; clear hw_; have hc_ := E.cls; (repeat (obtain ⟨c_, f_, hc_⟩ := hc_)); clear hc_) | ((with_reducible refine gate_stored (t := 77) (by rfl) ?_); refine st_ (fun ws hs_ => ?_); replace E := Env.pt2 hs_ E; clear hs_; have hc_ := E.cls; (repeat (obtain ⟨c_, f_, hc_⟩ := hc_)); clear hc_) | ((with_reducible refine gate_stored (t := 84) (by rfl) ?_); refine st_ (fun ws hs_ => ?_); replace E := Env.pt4 hs_ E; clear hs_; have hc_ := E.cls; (repeat (obtain ⟨c_, f_, hc_⟩ := hc_)); clear hc_) | (refine start_ (id := 6) (n := 21) (S := fun w' => Cls w' _) (ds := []) (bz 21 0) (by kernel_rfl) rfl rfl E.draw.cls (fun hHeld => ?_); replace E := E.draw; refine pu_ 0 (some 36) (bz 21 1) ?_; refine pu_ 1 (some 37) (bz 21 3) ?_; refine pu_ 2 (some 38) (bz 21 7) ?_; (first | (refine ta_ 3 (some 39) (bz 21 15) hHeld ?_) | (refine po_ 3 (some 39) (bz 21 15) ?_)); refine on_ 4 (some 40) (bz 21 31) (fun K hK => ?_); (first | (refine off_ (by rfl) ?_; refine hK.out _ _ E.cls (fun hHeld => ?_); clear hK K) | (refine gs_ Tryz.func84 ?_; refine env_call E (sign_calls E.getW) ?_; clear E; rintro e wc E rfl; refine ⟨_, rfl, ?_⟩; refine hK.out _ _ E.cls (fun hHeld => ?_); clear hK K)); refine nm_ (some 40) ?_; (first | (refine pu_ 5 (some 41) (bz 21 63) ?_) | (refine po_ 5 (some 41) (bz 21 63) ?_)); refine pu_ 6 (some 42) (bz 21 127) ?_; refine pu_ 7 (some 43) (bz 21 255) ?_; (first | (refine ta_ 8 (some 44) (bz 21 511) hHeld ?_) | (refine po_ 8 (some 44) (bz 21 511) ?_)); refine on_ 9 (some 45) (bz 21 1023) (fun K hK => ?_); (first | (refine off_ (by rfl) ?_; refine hK.out _ _ E.cls (fun hHeld => ?_); clear hK K) | (refine gs_ Tryz.func121 ?_; refine env_call E (of_calls (n := 1) (by omega) (by omega)) ?_; clear E; rintro e wc E ⟨br, Ar, nr, cr, rfl, hw_⟩; replace E := E.wh hw_; clear hw_; refine ⟨_, rfl, ?_⟩; refine hK.out _ _ E.cls (fun hHeld => ?_); clear hK K)); refine nm_ (some 45) ?_; refine on_ 10 (some 46) (bz 21 2047) (fun K hK => ?_); (first | (refine off_ (by rfl) ?_; refine hK.out _ _ E.cls (fun hHeld => ?_); clear hK K) | (refine gs_ Tryz.func141 ?_; refine env_call E (cmp_calls E.getW E.getW) ?_; clear E; rintro e wc E rfl; refine ⟨_, rfl, ?_⟩; refine hK.out _ _ E.cls (fun hHeld => ?_); clear hK K)); refine nm_ (some 46) ?_; (first | (refine pu_ 11 (some 47) (bz 21 4095) ?_) | (refine po_ 11 (some 47) (bz 21 4095) ?_)); refine pu_ 12 (some 48) (bz 21 8191) ?_; refine pu_ 13 (some 49) (bz 21 16383) ?_; (first | (refine ta_ 14 (some 50) (bz 21 32767) hHeld ?_) | (refine po_ 14 (some 50) (bz 21 32767) ?_)); (first | (refine ta_ 15 (some 51) (bz 21 65535) hHeld ?_) | (refine po_ 15 (some 51) (bz 21 65535) ?_)); refine on_ 16 (some 52) (bz 21 131071) (fun K hK => ?_); (first | (refine off_ (by rfl) ?_; refine hK.out _ _ E.cls (fun hHeld => ?_); clear hK K) | (refine gs_ Tryz.func155 ?_; refine env_call E (gcd_calls E.getW E.getW ((ln_text H1.out HS1.out).fits (by omega)) ((ln_text H2.out HS2.out).fits (by omega))) ?_; clear E; rintro e wc E ⟨br, Ar, nr, cr, rfl, hw_⟩; replace E := E.wh hw_; clear hw_; refine ⟨_, rfl, ?_⟩; refine hK.out _ _ E.cls (fun hHeld => ?_); clear hK K)); refine nm_ (some 52) ?_; refine on_ 17 (some 53) (bz 21 262143) (fun K hK => ?_); (first | (refine off_ (by rfl) ?_; refine hK.out _ _ E.cls (fun hHeld => ?_); clear hK K) | (refine gs_ Tryz.func121 ?_; refine env_call E (of_calls (n := 1) (by omega) (by omega)) ?_; clear E; rintro e wc E ⟨br, Ar, nr, cr, rfl, hw_⟩; replace E := E.wh hw_; clear hw_; refine ⟨_, rfl, ?_⟩; refine hK.out _ _ E.cls (fun hHeld => ?_); clear hK K)); refine nm_ (some 53) ?_; refine on_ 18 (some 54) (bz 21 524287) (fun K hK => ?_); (first | (refine off_ (by rfl) ?_; refine hK.out _ _ E.cls (fun hHeld => ?_); clear hK K) | (refine gs_ Tryz.func141 ?_; refine env_call E (cmp_calls E.getW E.getW) ?_; clear E; rintro e wc E rfl; refine ⟨_, rfl, ?_⟩; refine hK.out _ _ E.cls (fun hHeld => ?_); clear hK K)); refine nm_ (some 54) ?_; (first | (refine pu_ 19 (some 55) (bz 21 1048575) ?_) | (refine po_ 19 (some 55) (bz 21 1048575) ?_)); refine pu_ 20 (some 56) (bz 21 2097151) ?_; refine done_ (by kernel_rfl) ?_; all_goals (have hc_ := E.cls; (repeat (obtain ⟨c_, f_, hc_⟩ := hc_)); clear hc_)))
              refine bodyPost_ret (results_list (rs := [.cell _ 84, .tmp _]) rfl (by simp) (.cell _ _ _ (0, 0) _ rfl (by first | exact (E.bxs.at (i := 0) rfl).2.1 | exact (E.bxs.at (i := 1) rfl).2.1 | exact (E.bxs.at (i := 2) rfl).2.1 | exact (E.bxs.at (i := 3) rfl).2.1 | exact (E.bxs.at (i := 4) rfl).2.1 | exact (E.bxs.at (i := 5) rfl).2.1 | exact (E.bxs.at (i := 6) rfl).2.1 | exact (E.bxs.at (i := 7) rfl).2.1 | exact (E.bxs.at (i := 8) rfl).2.1 | exact (E.bxs.at (i := 9) rfl).2.1) Tryz.underlying84 rfl (by kernel_rfl) (.tmp .nil))) rfl ?_
              exact ⟨E.below, RZQ.yes E.getW E.getW HQ.out.1 HQ.out.2⟩
            · rw [if_neg (fun h => c2 h.2.2)]
              have k2 : (sgnI ((n.gcd d : Int) - 1) == 0) = false := beq_eq_false_iff_ne.mpr (fun h => c2 (by have := (sgnI_zero _).1 h; omega))
              clear c0 c1 c2
              go_enter Tryz.func162, Tryz.ntmps162
              go_wp2_with (first | ((with_reducible first | refine gate_box (by rfl) ?_ | refine gate_alloc (by rfl) ?_); refine bx_ E ?_; clear E; intro gb wb E; have hc_ := E.cls; (repeat (obtain ⟨c_, f_, hc_⟩ := hc_)); clear hc_) | (go_at_call 80; refine env_call E (cut_of _ HC.out HS.out) ?_; clear E; rintro e wc E rfl; have hc_ := E.cls; (repeat (obtain ⟨c_, f_, hc_⟩ := hc_)); clear hc_) | (go_at_call 95; refine env_call E (read_some _ H1.out HS1.out) ?_; clear E; rintro e wc E ⟨br, Ar, nr, cr, rfl, hw_⟩; replace E := E.wh hw_; clear hw_; have hc_ := E.cls; (repeat (obtain ⟨c_, f_, hc_⟩ := hc_)); clear hc_) | (go_at_call 95; refine env_call E (read_some _ H2.out HS2.out) ?_; clear E; rintro e wc E ⟨br, Ar, nr, cr, rfl, hw_⟩; replace E := E.wh hw_; clear hw_; have hc_ := E.cls; (repeat (obtain ⟨c_, f_, hc_⟩ := hc_)); clear hc_) | ((with_reducible refine gate_stored (t := 77) (by rfl) ?_); refine st_ (fun ws hs_ => ?_); replace E := Env.pt2 hs_ E; clear hs_; have hc_ := E.cls; (repeat (obtain ⟨c_, f_, hc_⟩ := hc_)); clear hc_) | ((with_reducible refine gate_stored (t := 84) (by rfl) ?_); refine st_ (fun ws hs_ => ?_); replace E := Env.pt4 hs_ E; clear hs_; have hc_ := E.cls; (repeat (obtain ⟨c_, f_, hc_⟩ := hc_)); clear hc_) | (refine start_ (id := 6) (n := 21) (S := fun w' => Cls w' _) (ds := []) (bz 21 0) (by kernel_rfl) rfl rfl E.draw.cls (fun hHeld => ?_); replace E := E.draw; refine pu_ 0 (some 36) (bz 21 1) ?_; refine pu_ 1 (some 37) (bz 21 3) ?_; refine pu_ 2 (some 38) (bz 21 7) ?_; (first | (refine ta_ 3 (some 39) (bz 21 15) hHeld ?_) | (refine po_ 3 (some 39) (bz 21 15) ?_)); refine on_ 4 (some 40) (bz 21 31) (fun K hK => ?_); (first | (refine off_ (by rfl) ?_; refine hK.out _ _ E.cls (fun hHeld => ?_); clear hK K) | (refine gs_ Tryz.func84 ?_; refine env_call E (sign_calls E.getW) ?_; clear E; rintro e wc E rfl; refine ⟨_, rfl, ?_⟩; refine hK.out _ _ E.cls (fun hHeld => ?_); clear hK K)); refine nm_ (some 40) ?_; (first | (refine pu_ 5 (some 41) (bz 21 63) ?_) | (refine po_ 5 (some 41) (bz 21 63) ?_)); refine pu_ 6 (some 42) (bz 21 127) ?_; refine pu_ 7 (some 43) (bz 21 255) ?_; (first | (refine ta_ 8 (some 44) (bz 21 511) hHeld ?_) | (refine po_ 8 (some 44) (bz 21 511) ?_)); refine on_ 9 (some 45) (bz 21 1023) (fun K hK => ?_); (first | (refine off_ (by rfl) ?_; refine hK.out _ _ E.cls (fun hHeld => ?_); clear hK K) | (refine gs_ Tryz.func121 ?_; refine env_call E (of_calls (n := 1) (by omega) (by omega)) ?_; clear E; rintro e wc E ⟨br, Ar, nr, cr, rfl, hw_⟩; replace E := E.wh hw_; clear hw_; refine ⟨_, rfl, ?_⟩; refine hK.out _ _ E.cls (fun hHeld => ?_); clear hK K)); refine nm_ (some 45) ?_; refine on_ 10 (some 46) (bz 21 2047) (fun K hK => ?_); (first | (refine off_ (by rfl) ?_; refine hK.out _ _ E.cls (fun hHeld => ?_); clear hK K) | (refine gs_ Tryz.func141 ?_; refine env_call E (cmp_calls E.getW E.getW) ?_; clear E; rintro e wc E rfl; refine ⟨_, rfl, ?_⟩; refine hK.out _ _ E.cls (fun hHeld => ?_); clear hK K)); refine nm_ (some 46) ?_; (first | (refine pu_ 11 (some 47) (bz 21 4095) ?_) | (refine po_ 11 (some 47) (bz 21 4095) ?_)); refine pu_ 12 (some 48) (bz 21 8191) ?_; refine pu_ 13 (some 49) (bz 21 16383) ?_; (first | (refine ta_ 14 (some 50) (bz 21 32767) hHeld ?_) | (refine po_ 14 (some 50) (bz 21 32767) ?_)); (first | (refine ta_ 15 (some 51) (bz 21 65535) hHeld ?_) | (refine po_ 15 (some 51) (bz 21 65535) ?_)); refine on_ 16 (some 52) (bz 21 131071) (fun K hK => ?_); (first | (refine off_ (by rfl) ?_; refine hK.out _ _ E.cls (fun hHeld => ?_); clear hK K) | (refine gs_ Tryz.func155 ?_; refine env_call E (gcd_calls E.getW E.getW ((ln_text H1.out HS1.out).fits (by omega)) ((ln_text H2.out HS2.out).fits (by omega))) ?_; clear E; rintro e wc E ⟨br, Ar, nr, cr, rfl, hw_⟩; replace E := E.wh hw_; clear hw_; refine ⟨_, rfl, ?_⟩; refine hK.out _ _ E.cls (fun hHeld => ?_); clear hK K)); refine nm_ (some 52) ?_; refine on_ 17 (some 53) (bz 21 262143) (fun K hK => ?_); (first | (refine off_ (by rfl) ?_; refine hK.out _ _ E.cls (fun hHeld => ?_); clear hK K) | (refine gs_ Tryz.func121 ?_; refine env_call E (of_calls (n := 1) (by omega) (by omega)) ?_; clear E; rintro e wc E ⟨br, Ar, nr, cr, rfl, hw_⟩; replace E := E.wh hw_; clear hw_; refine ⟨_, rfl, ?_⟩; refine hK.out _ _ E.cls (fun hHeld => ?_); clear hK K)); refine nm_ (some 53) ?_; refine on_ 18 (some 54) (bz 21 524287) (fun K hK => ?_); (first | (refine off_ (by rfl) ?_; refine hK.out _ _ E.cls (fun hHeld => ?_); clear hK K) | (refine gs_ Tryz.func141 ?_; refine env_call E (cmp_calls E.getW E.getW) ?_; clear E; rintro e wc E rfl; refine ⟨_, rfl, ?_⟩; refine hK.out _ _ E.cls (fun hHeld => ?_); clear hK K)); refine nm_ (some 54) ?_; (first | (refine pu_ 19 (some 55) (bz 21 1048575) ?_) | (refine po_ 19 (some 55) (bz 21 1048575) ?_)); refine pu_ 20 (some 56) (bz 21 2097151) ?_; refine done_ (by kernel_rfl) ?_; all_goals (have hc_ := E.cls; (repeat (obtain ⟨c_, f_, hc_⟩ := hc_)); clear hc_)))
              refine bodyPost_ret (results_list (rs := [.cell _ 84, .tmp _]) rfl (by simp) (.cell _ _ _ (0, 0) _ rfl (by first | exact (E.bxs.at (i := 0) rfl).2.1 | exact (E.bxs.at (i := 1) rfl).2.1 | exact (E.bxs.at (i := 2) rfl).2.1 | exact (E.bxs.at (i := 3) rfl).2.1 | exact (E.bxs.at (i := 4) rfl).2.1 | exact (E.bxs.at (i := 5) rfl).2.1 | exact (E.bxs.at (i := 6) rfl).2.1 | exact (E.bxs.at (i := 7) rfl).2.1 | exact (E.bxs.at (i := 8) rfl).2.1 | exact (E.bxs.at (i := 9) rfl).2.1) Tryz.underlying84 rfl (by kernel_rfl) (.tmp .nil))) rfl ?_
              exact ⟨E.below, RZQ.no (Wh.zero _) (Wh.zero _)⟩
          · rw [if_neg (fun h => c1 h.2.1)]
            have k1 : decide (sgnI (d - 1) ≤ 0) = true := decide_eq_true (by have := mt (sgnI_pos (d - 1)).1 (by omega); omega)
            clear c0 c1
            go_enter Tryz.func162, Tryz.ntmps162
            go_wp2_with (first | ((with_reducible first | refine gate_box (by rfl) ?_ | refine gate_alloc (by rfl) ?_); refine bx_ E ?_; clear E; intro gb wb E; have hc_ := E.cls; (repeat (obtain ⟨c_, f_, hc_⟩ := hc_)); clear hc_) | (go_at_call 80; refine env_call E (cut_of _ HC.out HS.out) ?_; clear E; rintro e wc E rfl; have hc_ := E.cls; (repeat (obtain ⟨c_, f_, hc_⟩ := hc_)); clear hc_) | (go_at_call 95; refine env_call E (read_some _ H1.out HS1.out) ?_; clear E; rintro e wc E ⟨br, Ar, nr, cr, rfl, hw_⟩; replace E := E.wh hw_; clear hw_; have hc_ := E.cls; (repeat (obtain ⟨c_, f_, hc_⟩ := hc_)); clear hc_) | (go_at_call 95; refine env_call E (read_some _ H2.out HS2.out) ?_; clear E; rintro e wc E ⟨br, Ar, nr, cr, rfl, hw_⟩; replace E := E.wh hw_; clear hw_; have hc_ := E.cls; (repeat (obtain ⟨c_, f_, hc_⟩ := hc_)); clear hc_) | ((with_reducible refine gate_stored (t := 77) (by rfl) ?_); refine st_ (fun ws hs_ => ?_); replace E := Env.pt2 hs_ E; clear hs_; have hc_ := E.cls; (repeat (obtain ⟨c_, f_, hc_⟩ := hc_)); clear hc_) | ((with_reducible refine gate_stored (t := 84) (by rfl) ?_); refine st_ (fun ws hs_ => ?_); replace E := Env.pt4 hs_ E; clear hs_; have hc_ := E.cls; (repeat (obtain ⟨c_, f_, hc_⟩ := hc_)); clear hc_) | (refine start_ (id := 6) (n := 21) (S := fun w' => Cls w' _) (ds := []) (bz 21 0) (by kernel_rfl) rfl rfl E.draw.cls (fun hHeld => ?_); replace E := E.draw; refine pu_ 0 (some 36) (bz 21 1) ?_; refine pu_ 1 (some 37) (bz 21 3) ?_; refine pu_ 2 (some 38) (bz 21 7) ?_; (first | (refine ta_ 3 (some 39) (bz 21 15) hHeld ?_) | (refine po_ 3 (some 39) (bz 21 15) ?_)); refine on_ 4 (some 40) (bz 21 31) (fun K hK => ?_); (first | (refine off_ (by rfl) ?_; refine hK.out _ _ E.cls (fun hHeld => ?_); clear hK K) | (refine gs_ Tryz.func84 ?_; refine env_call E (sign_calls E.getW) ?_; clear E; rintro e wc E rfl; refine ⟨_, rfl, ?_⟩; refine hK.out _ _ E.cls (fun hHeld => ?_); clear hK K)); refine nm_ (some 40) ?_; (first | (refine pu_ 5 (some 41) (bz 21 63) ?_) | (refine po_ 5 (some 41) (bz 21 63) ?_)); refine pu_ 6 (some 42) (bz 21 127) ?_; refine pu_ 7 (some 43) (bz 21 255) ?_; (first | (refine ta_ 8 (some 44) (bz 21 511) hHeld ?_) | (refine po_ 8 (some 44) (bz 21 511) ?_)); refine on_ 9 (some 45) (bz 21 1023) (fun K hK => ?_); (first | (refine off_ (by rfl) ?_; refine hK.out _ _ E.cls (fun hHeld => ?_); clear hK K) | (refine gs_ Tryz.func121 ?_; refine env_call E (of_calls (n := 1) (by omega) (by omega)) ?_; clear E; rintro e wc E ⟨br, Ar, nr, cr, rfl, hw_⟩; replace E := E.wh hw_; clear hw_; refine ⟨_, rfl, ?_⟩; refine hK.out _ _ E.cls (fun hHeld => ?_); clear hK K)); refine nm_ (some 45) ?_; refine on_ 10 (some 46) (bz 21 2047) (fun K hK => ?_); (first | (refine off_ (by rfl) ?_; refine hK.out _ _ E.cls (fun hHeld => ?_); clear hK K) | (refine gs_ Tryz.func141 ?_; refine env_call E (cmp_calls E.getW E.getW) ?_; clear E; rintro e wc E rfl; refine ⟨_, rfl, ?_⟩; refine hK.out _ _ E.cls (fun hHeld => ?_); clear hK K)); refine nm_ (some 46) ?_; (first | (refine pu_ 11 (some 47) (bz 21 4095) ?_) | (refine po_ 11 (some 47) (bz 21 4095) ?_)); refine pu_ 12 (some 48) (bz 21 8191) ?_; refine pu_ 13 (some 49) (bz 21 16383) ?_; (first | (refine ta_ 14 (some 50) (bz 21 32767) hHeld ?_) | (refine po_ 14 (some 50) (bz 21 32767) ?_)); (first | (refine ta_ 15 (some 51) (bz 21 65535) hHeld ?_) | (refine po_ 15 (some 51) (bz 21 65535) ?_)); refine on_ 16 (some 52) (bz 21 131071) (fun K hK => ?_); (first | (refine off_ (by rfl) ?_; refine hK.out _ _ E.cls (fun hHeld => ?_); clear hK K) | (refine gs_ Tryz.func155 ?_; refine env_call E (gcd_calls E.getW E.getW ((ln_text H1.out HS1.out).fits (by omega)) ((ln_text H2.out HS2.out).fits (by omega))) ?_; clear E; rintro e wc E ⟨br, Ar, nr, cr, rfl, hw_⟩; replace E := E.wh hw_; clear hw_; refine ⟨_, rfl, ?_⟩; refine hK.out _ _ E.cls (fun hHeld => ?_); clear hK K)); refine nm_ (some 52) ?_; refine on_ 17 (some 53) (bz 21 262143) (fun K hK => ?_); (first | (refine off_ (by rfl) ?_; refine hK.out _ _ E.cls (fun hHeld => ?_); clear hK K) | (refine gs_ Tryz.func121 ?_; refine env_call E (of_calls (n := 1) (by omega) (by omega)) ?_; clear E; rintro e wc E ⟨br, Ar, nr, cr, rfl, hw_⟩; replace E := E.wh hw_; clear hw_; refine ⟨_, rfl, ?_⟩; refine hK.out _ _ E.cls (fun hHeld => ?_); clear hK K)); refine nm_ (some 53) ?_; refine on_ 18 (some 54) (bz 21 524287) (fun K hK => ?_); (first | (refine off_ (by rfl) ?_; refine hK.out _ _ E.cls (fun hHeld => ?_); clear hK K) | (refine gs_ Tryz.func141 ?_; refine env_call E (cmp_calls E.getW E.getW) ?_; clear E; rintro e wc E rfl; refine ⟨_, rfl, ?_⟩; refine hK.out _ _ E.cls (fun hHeld => ?_); clear hK K)); refine nm_ (some 54) ?_; (first | (refine pu_ 19 (some 55) (bz 21 1048575) ?_) | (refine po_ 19 (some 55) (bz 21 1048575) ?_)); refine pu_ 20 (some 56) (bz 21 2097151) ?_; refine done_ (by kernel_rfl) ?_; all_goals (have hc_ := E.cls; (repeat (obtain ⟨c_, f_, hc_⟩ := hc_)); clear hc_)))
            refine bodyPost_ret (results_list (rs := [.cell _ 84, .tmp _]) rfl (by simp) (.cell _ _ _ (0, 0) _ rfl (by first | exact (E.bxs.at (i := 0) rfl).2.1 | exact (E.bxs.at (i := 1) rfl).2.1 | exact (E.bxs.at (i := 2) rfl).2.1 | exact (E.bxs.at (i := 3) rfl).2.1 | exact (E.bxs.at (i := 4) rfl).2.1 | exact (E.bxs.at (i := 5) rfl).2.1 | exact (E.bxs.at (i := 6) rfl).2.1 | exact (E.bxs.at (i := 7) rfl).2.1 | exact (E.bxs.at (i := 8) rfl).2.1 | exact (E.bxs.at (i := 9) rfl).2.1) Tryz.underlying84 rfl (by kernel_rfl) (.tmp .nil))) rfl ?_
            exact ⟨E.below, RZQ.no (Wh.zero _) (Wh.zero _)⟩
end Go.Proofs.YtfmcgammhfdfnaaGreatDoor.PRatio
namespace Go.Proofs.YtfmcgammhfdfnaaGreatDoor.PRatio
open Go.RowKit Go.Proofs.YtfmcgammhfdfnaaGreatDoorW.PrintWords Go.Proofs.YtfmcgammhfdfnaaGreatDoorW.PrintLast Go.Proofs.YtfmcgammhfdfnaaGreatDoorW.PrintMore
set_option linter.unusedVariables false
set_option linter.unusedSimpArgs false
set_option maxHeartbeats 8000000
set_option maxRecDepth 100000
def lgq (q : Rat) : Bool := Lg q.num || Lg q.den
def rv (s : ByteArray) : Option Rat := (rat? (bytesOf s)).bind fun q => if lgq q = true then none else some q
theorem rv_some {s : ByteArray} {q : Rat} (h : rv s = some q) : rat? (bytesOf s) = some q ∧ lgq q = false := by
  obtain ⟨r, hr, h⟩ := Option.bind_eq_some_iff.1 h
  split at h
  · cases h
  next hl => cases h; exact ⟨hr, by simpa using hl⟩
theorem rv_none {s : ByteArray} (h : rv s = none) : rat? (bytesOf s) = none ∨ ∃ q, rat? (bytesOf s) = some q ∧ lgq q = true := by
  unfold rv at h
  cases hr : rat? (bytesOf s) with
  | none => exact .inl rfl
  | some q =>
    rw [hr] at h
    refine .inr ⟨q, rfl, ?_⟩
    cases hl : lgq q with
    | true => rfl
    | false => simp [hl] at h
theorem rv_ln {q : Rat} (h : lgq q = false) : Ln q.num 112 ∧ Ln (q.den : Int) 112 := by
  unfold lgq at h
  rw [Bool.or_eq_false_iff] at h
  exact ⟨ln_short h.1, ln_short h.2⟩
theorem ln_rat {s : ByteArray} {q : Rat} (h : rat? (bytesOf s) = some q) (hs : s.size ≤ 9000000000000) : Ln q.num 1000000000000 ∧ Ln (q.den : Int) 1000000000000 := by
  have h1 := congrArg List.length (rat?_eq h)
  rw [bytesOf_size, rtx] at h1
  have h2 := nd_tx q.num
  have h3 := nd_tx (q.den : Int)
  split at h1
  next hd =>
    refine ⟨(ln_nd (k := 9000000000000) (by omega)).mono (by omega), ?_⟩
    rw [hd]
    exact ln_one.mono (by omega)
  next hd =>
    rw [List.length_append, List.length_cons] at h1
    exact ⟨(ln_nd (k := 9000000000000) (by omega)).mono (by omega), (ln_nd (k := 9000000000000) (by omega)).mono (by omega)⟩
def RP (n d : Int) (f : Bool) (e : Ending) (w' : World) : Prop := ∃ b A x c b' A' x' c', e = .returned (.tuple #[.agg #[.bool b, .slice A x c, .bool b', .slice A' x' c'], .bool f]) ∧ Wh w' b (.slice A x c) n ∧ Wh w' b' (.slice A' x' c') d
def RPz (f : Bool) (e : Ending) (w' : World) : Prop := ∃ z z' b A x c b' A' x' c', e = .returned (.tuple #[.agg #[.bool b, .slice A x c, .bool b', .slice A' x' c'], .bool f]) ∧ Wh w' b (.slice A x c) z ∧ Wh w' b' (.slice A' x' c') z'
theorem readrat_some (W : World) {s : ByteArray} {q : Rat} (h : rat? (bytesOf s) = some q) (hs : s.size ≤ 9000000000000) : Calls Tryz.prog 162 #[.string s] W fun e w' => Below W.heap.size W w' ∧ RP q.num q.den true e w' :=
  (readrat_calls W s hs).mono fun e w' ⟨hb, hr⟩ => by
    rw [h] at hr
    obtain ⟨b, A, x, c, b', A', x', c', z, z', rfl, h1, h2, h3⟩ := hr
    obtain ⟨rfl, rfl⟩ := h3 q rfl
    exact ⟨hb, _, _, _, _, _, _, _, _, rfl, h1, h2⟩
theorem readrat_none (W : World) {s : ByteArray} (h : rat? (bytesOf s) = none) (hs : s.size ≤ 9000000000000) : Calls Tryz.prog 162 #[.string s] W fun e w' => Below W.heap.size W w' ∧ RPz false e w' :=
  (readrat_calls W s hs).mono fun e w' ⟨hb, hr⟩ => by
    rw [h] at hr
    obtain ⟨b, A, x, c, b', A', x', c', z, z', rfl, h1, h2, h3⟩ := hr
    exact ⟨hb, _, _, _, _, _, _, _, _, _, _, rfl, h1, h2⟩
theorem rr_some (W : World) {s : ByteArray} {q : Rat} (h : rv s = some q) (hs : s.size ≤ 9000000000000) : Calls Tryz.prog 104 #[.string s] W fun e w' => Below W.heap.size W w' ∧ RP q.num q.den true e w' := by
  have E := Env.start W
  have hr := (rv_some h).1
  have HR := Aside0.mk hr
  have HS := Aside0.mk hs
  have HL := Aside0.mk (rv_ln (rv_some h).2)
  have hl : (Lg q.num || Lg (q.den : Int)) = false := (rv_some h).2
  clear hr h hs
  go_enter Tryz.func104, Tryz.ntmps104
  go_wp2_with (first | ((with_reducible first | refine gate_box (by rfl) ?_ | refine gate_alloc (by rfl) ?_); refine bx_ E ?_; clear E; intro gb wb E; have hc_ := E.cls; (repeat (obtain ⟨c_, f_, hc_⟩ := hc_)); clear hc_) | (go_at_call 162; refine env_call E (readrat_some _ HR.out HS.out) ?_; clear E; rintro e wc E ⟨br, Ar, nr, cr, br2, Ar2, nr2, cr2, rfl, hw_, hw2_⟩; replace E := (E.wh hw_).wh hw2_; clear hw_ hw2_; have hc_ := E.cls; (repeat (obtain ⟨c_, f_, hc_⟩ := hc_)); clear hc_) | ((with_reducible refine gate_stored (t := 77) (by rfl) ?_); refine st_ (fun ws hs_ => ?_); replace E := Env.pt2 hs_ E; clear hs_; have hc_ := E.cls; (repeat (obtain ⟨c_, f_, hc_⟩ := hc_)); clear hc_) | ((with_reducible refine gate_stored (t := 84) (by rfl) ?_); refine st_ (fun ws hs_ => ?_); replace E := Env.pt4 hs_ E; clear hs_; have hc_ := E.cls; (repeat (obtain ⟨c_, f_, hc_⟩ := hc_)); clear hc_) | (refine start_ (id := 2) (n := 9) (S := fun w' => Cls w' _) (ds := [7]) (bz 9 0) (by kernel_rfl) rfl rfl E.draw.cls (fun hHeld => ?_); replace E := E.draw; refine pu_ 1 (some 12) (bz 9 2) ?_; refine pu_ 2 (some 13) (bz 9 6) ?_; refine ta_ 0 (some 11) (bz 9 7) hHeld ?_; (first | (refine ta_ 3 (some 14) (bz 9 15) hHeld ?_) | (refine po_ 3 (some 14) (bz 9 15) ?_)); refine on_ 4 (some 15) (bz 9 31) (fun K hK => ?_); (first | (refine off_ (by rfl) ?_; refine hK.out _ _ E.cls (fun hHeld => ?_); clear hK K) | (refine gs_ Tryz.func154 ?_; refine env_call E (rlong_calls E.getW E.getW (HL.out.1.fits (by omega)) (HL.out.2.fits (by omega))) ?_; clear E; rintro e wc E rfl; refine ⟨_, rfl, ?_⟩; refine hK.out _ _ E.cls (fun hHeld => ?_); clear hK K)); refine nm_ (some 15) ?_; (first | (refine pu_ 5 (some 16) (bz 9 63) ?_) | (refine po_ 5 (some 16) (bz 9 63) ?_)); refine pu_ 6 (some 17) (bz 9 127) ?_; refine la_ 7 (none) (bz 9 255) (fun K hK => ?_); have hc_ := E.cls; (repeat (obtain ⟨c_, f_, hc_⟩ := hc_)); clear hc_; refine sk_ (fun ws hs_ => ?_); replace E := Env.pt4 hs_ E; clear hs_; refine hK.out _ _ ?_; clear hK K; have hc_ := E.cls; (repeat (obtain ⟨c_, f_, hc_⟩ := hc_)); clear hc_; refine pu_ 8 (some 3) (bz 9 511) ?_; refine done_ (by kernel_rfl) ?_; all_goals (have hc_ := E.cls; (repeat (obtain ⟨c_, f_, hc_⟩ := hc_)); clear hc_)))
  refine bodyPost_ret (results_list (rs := [.cell _ 84, .tmp _]) rfl (by simp) (.cell _ _ _ (0, 0) _ rfl (by first | exact (E.bxs.at (i := 0) rfl).2.1 | exact (E.bxs.at (i := 1) rfl).2.1 | exact (E.bxs.at (i := 2) rfl).2.1 | exact (E.bxs.at (i := 3) rfl).2.1 | exact (E.bxs.at (i := 4) rfl).2.1 | exact (E.bxs.at (i := 5) rfl).2.1 | exact (E.bxs.at (i := 6) rfl).2.1 | exact (E.bxs.at (i := 7) rfl).2.1 | exact (E.bxs.at (i := 8) rfl).2.1 | exact (E.bxs.at (i := 9) rfl).2.1) Tryz.underlying84 rfl (by kernel_rfl) (.tmp .nil))) rfl ?_
  rw [hl]
  exact ⟨E.below, _, _, _, _, _, _, _, _, rfl, E.getW, E.getW⟩
theorem rr_none (W : World) {s : ByteArray} (h : rv s = none) (hs : s.size ≤ 9000000000000) : Calls Tryz.prog 104 #[.string s] W fun e w' => Below W.heap.size W w' ∧ RPz false e w' := by
  have E := Env.start W
  have HS := Aside0.mk hs
  rcases rv_none h with h | ⟨q, h, hl⟩
  · have HR := Aside0.mk h
    clear h hs
    go_enter Tryz.func104, Tryz.ntmps104
    go_wp2_with (first | ((with_reducible first | refine gate_box (by rfl) ?_ | refine gate_alloc (by rfl) ?_); refine bx_ E ?_; clear E; intro gb wb E; have hc_ := E.cls; (repeat (obtain ⟨c_, f_, hc_⟩ := hc_)); clear hc_) | (go_at_call 162; refine env_call E (readrat_none _ HR.out HS.out) ?_; clear E; rintro e wc E ⟨zr, zr2, br, Ar, nr, cr, br2, Ar2, nr2, cr2, rfl, hw_, hw2_⟩; replace E := (E.wh hw_).wh hw2_; clear hw_ hw2_; have hc_ := E.cls; (repeat (obtain ⟨c_, f_, hc_⟩ := hc_)); clear hc_) | ((with_reducible refine gate_stored (t := 77) (by rfl) ?_); refine st_ (fun ws hs_ => ?_); replace E := Env.pt2 hs_ E; clear hs_; have hc_ := E.cls; (repeat (obtain ⟨c_, f_, hc_⟩ := hc_)); clear hc_) | ((with_reducible refine gate_stored (t := 84) (by rfl) ?_); refine st_ (fun ws hs_ => ?_); replace E := Env.pt4 hs_ E; clear hs_; have hc_ := E.cls; (repeat (obtain ⟨c_, f_, hc_⟩ := hc_)); clear hc_) | (refine start_ (id := 2) (n := 9) (S := fun w' => Cls w' _) (ds := [7]) (bz 9 0) (by kernel_rfl) rfl rfl E.draw.cls (fun hHeld => ?_); replace E := E.draw; refine pu_ 1 (some 12) (bz 9 2) ?_; refine pu_ 2 (some 13) (bz 9 6) ?_; refine ta_ 0 (some 11) (bz 9 7) hHeld ?_; (first | (refine ta_ 3 (some 14) (bz 9 15) hHeld ?_) | (refine po_ 3 (some 14) (bz 9 15) ?_)); refine on_ 4 (some 15) (bz 9 31) (fun K hK => ?_); (first | (refine off_ (by rfl) ?_; refine hK.out _ _ E.cls (fun hHeld => ?_); clear hK K) | (refine gs_ Tryz.func154 ?_; refine env_call E (rlong_calls E.getW E.getW (by omega) (by omega)) ?_; clear E; rintro e wc E rfl; refine ⟨_, rfl, ?_⟩; refine hK.out _ _ E.cls (fun hHeld => ?_); clear hK K)); refine nm_ (some 15) ?_; (first | (refine pu_ 5 (some 16) (bz 9 63) ?_) | (refine po_ 5 (some 16) (bz 9 63) ?_)); refine pu_ 6 (some 17) (bz 9 127) ?_; refine la_ 7 (none) (bz 9 255) (fun K hK => ?_); have hc_ := E.cls; (repeat (obtain ⟨c_, f_, hc_⟩ := hc_)); clear hc_; refine sk_ (fun ws hs_ => ?_); replace E := Env.pt4 hs_ E; clear hs_; refine hK.out _ _ ?_; clear hK K; have hc_ := E.cls; (repeat (obtain ⟨c_, f_, hc_⟩ := hc_)); clear hc_; refine pu_ 8 (some 3) (bz 9 511) ?_; refine done_ (by kernel_rfl) ?_; all_goals (have hc_ := E.cls; (repeat (obtain ⟨c_, f_, hc_⟩ := hc_)); clear hc_)))
    refine bodyPost_ret (results_list (rs := [.cell _ 84, .tmp _]) rfl (by simp) (.cell _ _ _ (0, 0) _ rfl (by first | exact (E.bxs.at (i := 0) rfl).2.1 | exact (E.bxs.at (i := 1) rfl).2.1 | exact (E.bxs.at (i := 2) rfl).2.1 | exact (E.bxs.at (i := 3) rfl).2.1 | exact (E.bxs.at (i := 4) rfl).2.1 | exact (E.bxs.at (i := 5) rfl).2.1 | exact (E.bxs.at (i := 6) rfl).2.1 | exact (E.bxs.at (i := 7) rfl).2.1 | exact (E.bxs.at (i := 8) rfl).2.1 | exact (E.bxs.at (i := 9) rfl).2.1) Tryz.underlying84 rfl (by kernel_rfl) (.tmp .nil))) rfl ?_
    exact ⟨E.below, _, _, _, _, _, _, _, _, _, _, rfl, E.getW, E.getW⟩
  · have HR := Aside0.mk h
    have HL := Aside0.mk (ln_rat h hs)
    have hl : (Lg q.num || Lg (q.den : Int)) = true := hl
    clear h hs
    go_enter Tryz.func104, Tryz.ntmps104
    go_wp2_with (first | ((with_reducible first | refine gate_box (by rfl) ?_ | refine gate_alloc (by rfl) ?_); refine bx_ E ?_; clear E; intro gb wb E; have hc_ := E.cls; (repeat (obtain ⟨c_, f_, hc_⟩ := hc_)); clear hc_) | (go_at_call 162; refine env_call E (readrat_some _ HR.out HS.out) ?_; clear E; rintro e wc E ⟨br, Ar, nr, cr, br2, Ar2, nr2, cr2, rfl, hw_, hw2_⟩; replace E := (E.wh hw_).wh hw2_; clear hw_ hw2_; have hc_ := E.cls; (repeat (obtain ⟨c_, f_, hc_⟩ := hc_)); clear hc_) | ((with_reducible refine gate_stored (t := 77) (by rfl) ?_); refine st_ (fun ws hs_ => ?_); replace E := Env.pt2 hs_ E; clear hs_; have hc_ := E.cls; (repeat (obtain ⟨c_, f_, hc_⟩ := hc_)); clear hc_) | ((with_reducible refine gate_stored (t := 84) (by rfl) ?_); refine st_ (fun ws hs_ => ?_); replace E := Env.pt4 hs_ E; clear hs_; have hc_ := E.cls; (repeat (obtain ⟨c_, f_, hc_⟩ := hc_)); clear hc_) | (refine start_ (id := 2) (n := 9) (S := fun w' => Cls w' _) (ds := [7]) (bz 9 0) (by kernel_rfl) rfl rfl E.draw.cls (fun hHeld => ?_); replace E := E.draw; refine pu_ 1 (some 12) (bz 9 2) ?_; refine pu_ 2 (some 13) (bz 9 6) ?_; refine ta_ 0 (some 11) (bz 9 7) hHeld ?_; (first | (refine ta_ 3 (some 14) (bz 9 15) hHeld ?_) | (refine po_ 3 (some 14) (bz 9 15) ?_)); refine on_ 4 (some 15) (bz 9 31) (fun K hK => ?_); (first | (refine off_ (by rfl) ?_; refine hK.out _ _ E.cls (fun hHeld => ?_); clear hK K) | (refine gs_ Tryz.func154 ?_; refine env_call E (rlong_calls E.getW E.getW (HL.out.1.fits (by omega)) (HL.out.2.fits (by omega))) ?_; clear E; rintro e wc E rfl; refine ⟨_, rfl, ?_⟩; refine hK.out _ _ E.cls (fun hHeld => ?_); clear hK K)); refine nm_ (some 15) ?_; (first | (refine pu_ 5 (some 16) (bz 9 63) ?_) | (refine po_ 5 (some 16) (bz 9 63) ?_)); refine pu_ 6 (some 17) (bz 9 127) ?_; refine la_ 7 (none) (bz 9 255) (fun K hK => ?_); have hc_ := E.cls; (repeat (obtain ⟨c_, f_, hc_⟩ := hc_)); clear hc_; refine sk_ (fun ws hs_ => ?_); replace E := Env.pt4 hs_ E; clear hs_; refine hK.out _ _ ?_; clear hK K; have hc_ := E.cls; (repeat (obtain ⟨c_, f_, hc_⟩ := hc_)); clear hc_; refine pu_ 8 (some 3) (bz 9 511) ?_; refine done_ (by kernel_rfl) ?_; all_goals (have hc_ := E.cls; (repeat (obtain ⟨c_, f_, hc_⟩ := hc_)); clear hc_)))
    refine bodyPost_ret (results_list (rs := [.cell _ 84, .tmp _]) rfl (by simp) (.cell _ _ _ (0, 0) _ rfl (by first | exact (E.bxs.at (i := 0) rfl).2.1 | exact (E.bxs.at (i := 1) rfl).2.1 | exact (E.bxs.at (i := 2) rfl).2.1 | exact (E.bxs.at (i := 3) rfl).2.1 | exact (E.bxs.at (i := 4) rfl).2.1 | exact (E.bxs.at (i := 5) rfl).2.1 | exact (E.bxs.at (i := 6) rfl).2.1 | exact (E.bxs.at (i := 7) rfl).2.1 | exact (E.bxs.at (i := 8) rfl).2.1 | exact (E.bxs.at (i := 9) rfl).2.1) Tryz.underlying84 rfl (by kernel_rfl) (.tmp .nil))) rfl ?_
    rw [hl]
    exact ⟨E.below, _, _, _, _, _, _, _, _, _, _, rfl, E.getW, E.getW⟩
def resA (q : Rat) : ByteArray := if lgq q = true then ⟨#[]⟩ else RT q
def resE (q : Rat) : Int := if lgq q = true then 3 else 0
section
variable {W : World} {b b' : Bool} {A A' : Option Addr} {n c n' c' : Nat} {z z' : Int}
theorem Lg_one : Lg 1 = false := by
  refine decide_eq_false ?_
  have := (nd_le 1 1).2 (by decide)
  show ¬ 1000 < nd 1
  omega
theorem Lg_zero : Lg 0 = false := by
  refine decide_eq_false ?_
  show ¬ 1000 < nd 0
  rw [nd_zero]
  omega
theorem Lg_dn (d : Int) : Lg (dn d) = Lg d := by
  unfold dn
  split
  next h => rw [h, Lg_one, Lg_zero]
  · rfl
theorem result_calls {q : Rat} (h : Wh W b (.slice A n c) z) (h' : Wh W b' (.slice A' n' c') z') (hn : z = q.num) (hd : dn z' = q.den) (l1 : Ln z 1000000000000) (l2 : Ln z' 1000000000000) :
    Calls Tryz.prog 87 #[.agg #[.bool b, .slice A n c, .bool b', .slice A' n' c']] W fun e w' => Below W.heap.size W w' ∧ e = .returned (.tuple #[.string (resA q), .int .i64 (resE q)]) := by
  have E := ((Env.start W).wh h).wh h'
  have HN := Aside0.mk hn
  have HD := Aside0.mk hd
  have L1 := Aside0.mk l1
  have L2 := Aside0.mk l2
  have hlq : (Lg z || Lg z') = lgq q := by
    unfold lgq
    rw [hn, ← hd, Lg_dn]
  cases hl : lgq q with
  | true =>
    rw [hl] at hlq
    have e1 : resA q = ⟨#[]⟩ := if_pos hl
    have e2 : resE q = 3 := if_pos hl
    rw [e1, e2]
    clear h h' hn hd l1 l2 hl e1 e2
    go_enter Tryz.func87, Tryz.ntmps87
    go_wp2_with (first | ((with_reducible first | refine gate_box (by rfl) ?_ | refine gate_alloc (by rfl) ?_); refine bx_ E ?_; clear E; intro gb wb E; have hc_ := E.cls; (repeat (obtain ⟨c_, f_, hc_⟩ := hc_)); clear hc_) | ((with_reducible refine gate_stored (t := 77) (by rfl) ?_); refine st_ (fun ws hs_ => ?_); replace E := Env.pt2 hs_ E; clear hs_; have hc_ := E.cls; (repeat (obtain ⟨c_, f_, hc_⟩ := hc_)); clear hc_) | ((with_reducible refine gate_stored (t := 84) (by rfl) ?_); refine st_ (fun ws hs_ => ?_); replace E := Env.pt4 hs_ E; clear hs_; have hc_ := E.cls; (repeat (obtain ⟨c_, f_, hc_⟩ := hc_)); clear hc_) | (go_at_call 154; refine env_call E (rlong_calls E.getW E.getW (L1.out.fits (by omega)) (L2.out.fits (by omega))) ?_; clear E; rintro e wc E rfl; have hc_ := E.cls; (repeat (obtain ⟨c_, f_, hc_⟩ := hc_)); clear hc_))
    refine bodyPost_ret (results_list (rs := [.tmp _, .tmp _]) rfl (by simp) (.tmp (.tmp .nil))) rfl ?_
    exact ⟨E.below, rfl⟩
  | false =>
    rw [hl] at hlq
    have e1 : resA q = RT q := if_neg (by rw [hl]; decide)
    have e2 : resE q = 0 := if_neg (by rw [hl]; decide)
    rw [e1, e2]
    clear h h' hn hd l1 l2 hl e1 e2
    go_enter Tryz.func87, Tryz.ntmps87
    go_wp2_with (first | ((with_reducible first | refine gate_box (by rfl) ?_ | refine gate_alloc (by rfl) ?_); refine bx_ E ?_; clear E; intro gb wb E; have hc_ := E.cls; (repeat (obtain ⟨c_, f_, hc_⟩ := hc_)); clear hc_) | ((with_reducible refine gate_stored (t := 77) (by rfl) ?_); refine st_ (fun ws hs_ => ?_); replace E := Env.pt2 hs_ E; clear hs_; have hc_ := E.cls; (repeat (obtain ⟨c_, f_, hc_⟩ := hc_)); clear hc_) | ((with_reducible refine gate_stored (t := 84) (by rfl) ?_); refine st_ (fun ws hs_ => ?_); replace E := Env.pt4 hs_ E; clear hs_; have hc_ := E.cls; (repeat (obtain ⟨c_, f_, hc_⟩ := hc_)); clear hc_) | (go_at_call 154; refine env_call E (rlong_calls E.getW E.getW (L1.out.fits (by omega)) (L2.out.fits (by omega))) ?_; clear E; rintro e wc E rfl; have hc_ := E.cls; (repeat (obtain ⟨c_, f_, hc_⟩ := hc_)); clear hc_) | (go_at_call 96; refine env_call E (rtext_calls (q := q) E.getW E.getW HN.out HD.out L1.out (L2.out.dn (by omega))) ?_; clear E; rintro e wc E rfl; have hc_ := E.cls; (repeat (obtain ⟨c_, f_, hc_⟩ := hc_)); clear hc_))
    refine bodyPost_ret (results_list (rs := [.tmp _, .tmp _]) rfl (by simp) (.tmp (.tmp .nil))) rfl ?_
    exact ⟨E.below, rfl⟩
end
end Go.Proofs.YtfmcgammhfdfnaaGreatDoor.PRatio
namespace Go.Proofs.YtfmcgammhfdfnaaGreatDoor.PRatio
open Go.RowKit Go.Proofs.YtfmcgammhfdfnaaGreatDoorW.PrintWords Go.Proofs.YtfmcgammhfdfnaaGreatDoorW.PrintLast Go.Proofs.YtfmcgammhfdfnaaGreatDoorW.PrintMore
set_option linter.unusedVariables false
set_option linter.unusedSimpArgs false
set_option maxHeartbeats 8000000
set_option maxRecDepth 100000
theorem divInt_le (n d : Int) : (Rat.divInt n d).num.natAbs ≤ n.natAbs ∧ (Rat.divInt n d).den ≤ max d.natAbs 1 := by
  rw [Rat.num_divInt, Rat.den_divInt]
  constructor
  · refine Nat.le_trans (Int.natAbs_ediv_le_natAbs _ _) ?_
    rw [Int.natAbs_mul]
    have h1 : d.sign.natAbs ≤ 1 := by
      rcases Int.lt_trichotomy d 0 with h | h | h
      · rw [Int.sign_eq_neg_one_of_neg h]; decide
      · rw [h]; decide
      · rw [Int.sign_eq_one_of_pos h]; decide
    exact Nat.le_trans (Nat.mul_le_mul_right _ h1) (by omega)
  · split
    · omega
    · exact Nat.le_trans (Nat.div_le_self _ _) (Nat.le_max_left _ _)
def Lnq (q : Rat) (k : Nat) : Prop := Ln q.num k ∧ Ln (q.den : Int) k
theorem lnq_div {n d : Int} {k : Nat} (hn : Ln n k) (hd : Ln d k) (hk : 1 ≤ k) : Lnq (Rat.divInt n d) k := by
  have h := divInt_le n d
  refine ⟨Nat.le_trans (len_mono h.1) hn, ?_⟩
  rcases (by omega : (Rat.divInt n d).den ≤ d.natAbs ∨ (Rat.divInt n d).den = 1) with h2 | h2
  · exact Nat.le_trans (len_mono (by rw [Int.natAbs_natCast]; exact h2)) hd
  · rw [h2]; exact ln_one.mono hk
theorem Lnq.mono {q : Rat} {a b : Nat} (h : Lnq q a) (hab : a ≤ b) : Lnq q b := ⟨h.1.mono hab, h.2.mono hab⟩
theorem dn_den (q : Rat) : dn (q.den : Int) = q.den := if_neg (by have := q.den_nz; omega)
theorem lnq_add {x y : Rat} {a b : Nat} (hx : Lnq x a) (hy : Lnq y b) : Lnq (x + y) (a + b + 1) := by
  have e : x + y = Rat.divInt (x.num * y.den + y.num * x.den) (x.den * y.den) := by
    have := rq_add x.num x.den y.num y.den
    rw [rq_self, rq_self, dn_den, dn_den] at this
    exact this.symm
  rw [e]
  exact lnq_div ((hx.1.mul hy.2).add ((hy.1.mul hx.2).mono (by omega))) ((hx.2.mul hy.2).mono (by omega)) (by omega)
theorem lnq_mul {x y : Rat} {a b : Nat} (hx : Lnq x a) (hy : Lnq y b) (h1 : 1 ≤ a) : Lnq (x * y) (a + b) := by
  have e : x * y = Rat.divInt (x.num * y.num) (x.den * y.den) := by
    have := rq_mul x.num x.den y.num y.den
    rw [rq_self, rq_self, dn_den, dn_den] at this
    exact this.symm
  rw [e]
  exact lnq_div (hx.1.mul hy.1) (hx.2.mul hy.2) (by omega)
theorem lnq_quo {x y : Rat} {a b : Nat} (hx : Lnq x a) (hy : Lnq y b) (h1 : 1 ≤ a) (h0 : y.num ≠ 0) : Lnq (x / y) (a + b) := by
  have e : x / y = Rat.divInt (x.num * y.den) (x.den * y.num) := by
    have := rq_div x.num x.den y.num y.den h0
    rw [rq_self, rq_self, dn_den, dn_den] at this
    exact this.symm
  rw [e]
  exact lnq_div (hx.1.mul hy.2) (hx.2.mul hy.1) (by omega)
theorem lnq_neg {x : Rat} {a : Nat} (hx : Lnq x a) : Lnq (-x) a := by
  unfold Lnq
  rw [Rat.neg_num, Rat.neg_den]
  exact ⟨hx.1.neg, hx.2⟩
theorem lnq_sub {x y : Rat} {a b : Nat} (hx : Lnq x a) (hy : Lnq y b) : Lnq (x - y) (a + b + 1) := by
  rw [Rat.sub_eq_add_neg]
  exact lnq_add hx (lnq_neg hy)
theorem ln_abs {z : Int} {k : Nat} (h : Ln z k) : Ln (z.natAbs : Int) k := Nat.le_trans (len_mono (by rw [Int.natAbs_natCast]; exact Nat.le_refl _)) h
theorem fl_floor (q : Rat) : q.num.fdiv (dn q.den) = q.floor := by
  rw [dn_den, Int.fdiv_eq_ediv_of_nonneg _ (by omega), Rat.floor]
  split
  next h => rw [h]; simp
  · rfl
theorem ln_floor {q : Rat} {k : Nat} (h : Ln q.num k) : Ln (q.num.fdiv (dn q.den)) k := by
  refine Nat.le_trans (len_mono ?_) h
  rw [dn_den, Int.fdiv_eq_ediv_of_nonneg _ (by omega)]
  exact Int.natAbs_ediv_le_natAbs _ _
section
variable {W : World} {a b : ByteArray}
theorem rvalid_calls (W : World) (a : ByteArray) (hs : a.size ≤ 9000000000000) : Calls Tryz.prog 50 #[.string a] W fun e w' => Below W.heap.size W w' ∧ e = .returned (.bool ((rv a).elim false fun _ => true)) := by
  have E := Env.start W
  have HS := Aside0.mk hs
  cases h : rv a with
  | none =>
    have HR := Aside0.mk h
    clear h hs
    go_enter Tryz.func50, Tryz.ntmps50
    go_wp2_with (first | ((with_reducible first | refine gate_box (by rfl) ?_ | refine gate_alloc (by rfl) ?_); refine bx_ E ?_; clear E; intro gb wb E; have hc_ := E.cls; (repeat (obtain ⟨c_, f_, hc_⟩ := hc_)); clear hc_) | (go_at_call 104; refine env_call E (rr_none _ HR.out HS.out) ?_; clear E; rintro e wc E ⟨zr, zr2, br, Ar, nr, cr, br2, Ar2, nr2, cr2, rfl, hw_, hw2_⟩; replace E := (E.wh hw_).wh hw2_; clear hw_ hw2_; have hc_ := E.cls; (repeat (obtain ⟨c_, f_, hc_⟩ := hc_)); clear hc_) | ((with_reducible refine gate_stored (t := 77) (by rfl) ?_); refine st_ (fun ws hs_ => ?_); replace E := Env.pt2 hs_ E; clear hs_; have hc_ := E.cls; (repeat (obtain ⟨c_, f_, hc_⟩ := hc_)); clear hc_) | ((with_reducible refine gate_stored (t := 84) (by rfl) ?_); refine st_ (fun ws hs_ => ?_); replace E := Env.pt4 hs_ E; clear hs_; have hc_ := E.cls; (repeat (obtain ⟨c_, f_, hc_⟩ := hc_)); clear hc_))
    go_ret
    exact ⟨E.below, rfl⟩
  | some q =>
    have HR := Aside0.mk h
    have HL := Aside0.mk (rv_ln (rv_some h).2)
    clear h hs
    go_enter Tryz.func50, Tryz.ntmps50
    go_wp2_with (first | ((with_reducible first | refine gate_box (by rfl) ?_ | refine gate_alloc (by rfl) ?_); refine bx_ E ?_; clear E; intro gb wb E; have hc_ := E.cls; (repeat (obtain ⟨c_, f_, hc_⟩ := hc_)); clear hc_) | (go_at_call 104; refine env_call E (rr_some _ HR.out HS.out) ?_; clear E; rintro e wc E ⟨br, Ar, nr, cr, br2, Ar2, nr2, cr2, rfl, hw_, hw2_⟩; replace E := (E.wh hw_).wh hw2_; clear hw_ hw2_; have hc_ := E.cls; (repeat (obtain ⟨c_, f_, hc_⟩ := hc_)); clear hc_) | ((with_reducible refine gate_stored (t := 77) (by rfl) ?_); refine st_ (fun ws hs_ => ?_); replace E := Env.pt2 hs_ E; clear hs_; have hc_ := E.cls; (repeat (obtain ⟨c_, f_, hc_⟩ := hc_)); clear hc_) | ((with_reducible refine gate_stored (t := 84) (by rfl) ?_); refine st_ (fun ws hs_ => ?_); replace E := Env.pt4 hs_ E; clear hs_; have hc_ := E.cls; (repeat (obtain ⟨c_, f_, hc_⟩ := hc_)); clear hc_))
    go_ret
    exact ⟨E.below, rfl⟩
theorem rxneg_calls (W : World) (a : ByteArray) (hs : a.size ≤ 9000000000000) : Calls Tryz.prog 24 #[.string a] W fun e w' => Below W.heap.size W w' ∧ e = .returned (.string ((rv a).elim ⟨#[]⟩ fun q => RT (-q))) := by
  have E := Env.start W
  have HS := Aside0.mk hs
  cases h : rv a with
  | none =>
    have HR := Aside0.mk h
    clear h hs
    go_enter Tryz.func24, Tryz.ntmps24
    go_wp2_with (first | ((with_reducible first | refine gate_box (by rfl) ?_ | refine gate_alloc (by rfl) ?_); refine bx_ E ?_; clear E; intro gb wb E; have hc_ := E.cls; (repeat (obtain ⟨c_, f_, hc_⟩ := hc_)); clear hc_) | (go_at_call 104; refine env_call E (rr_none _ HR.out HS.out) ?_; clear E; rintro e wc E ⟨zr, zr2, br, Ar, nr, cr, br2, Ar2, nr2, cr2, rfl, hw_, hw2_⟩; replace E := (E.wh hw_).wh hw2_; clear hw_ hw2_; have hc_ := E.cls; (repeat (obtain ⟨c_, f_, hc_⟩ := hc_)); clear hc_) | ((with_reducible refine gate_stored (t := 77) (by rfl) ?_); refine st_ (fun ws hs_ => ?_); replace E := Env.pt2 hs_ E; clear hs_; have hc_ := E.cls; (repeat (obtain ⟨c_, f_, hc_⟩ := hc_)); clear hc_) | ((with_reducible refine gate_stored (t := 84) (by rfl) ?_); refine st_ (fun ws hs_ => ?_); replace E := Env.pt4 hs_ E; clear hs_; have hc_ := E.cls; (repeat (obtain ⟨c_, f_, hc_⟩ := hc_)); clear hc_))
    go_ret
    exact ⟨E.below, rfl⟩
  | some q =>
    have HR := Aside0.mk h
    have HL := Aside0.mk (rv_ln (rv_some h).2)
    clear h hs
    go_enter Tryz.func24, Tryz.ntmps24
    go_wp2_with (first | ((with_reducible first | refine gate_box (by rfl) ?_ | refine gate_alloc (by rfl) ?_); refine bx_ E ?_; clear E; intro gb wb E; have hc_ := E.cls; (repeat (obtain ⟨c_, f_, hc_⟩ := hc_)); clear hc_) | (go_at_call 104; refine env_call E (rr_some _ HR.out HS.out) ?_; clear E; rintro e wc E ⟨br, Ar, nr, cr, br2, Ar2, nr2, cr2, rfl, hw_, hw2_⟩; replace E := (E.wh hw_).wh hw2_; clear hw_ hw2_; have hc_ := E.cls; (repeat (obtain ⟨c_, f_, hc_⟩ := hc_)); clear hc_) | ((with_reducible refine gate_stored (t := 77) (by rfl) ?_); refine st_ (fun ws hs_ => ?_); replace E := Env.pt2 hs_ E; clear hs_; have hc_ := E.cls; (repeat (obtain ⟨c_, f_, hc_⟩ := hc_)); clear hc_) | ((with_reducible refine gate_stored (t := 84) (by rfl) ?_); refine st_ (fun ws hs_ => ?_); replace E := Env.pt4 hs_ E; clear hs_; have hc_ := E.cls; (repeat (obtain ⟨c_, f_, hc_⟩ := hc_)); clear hc_) | (go_at_call 105; refine env_call E (rneg_calls E.getW E.getW) ?_; clear E; rintro e wc E ⟨br, Ar, nr, cr, br2, Ar2, nr2, cr2, rfl, hw_, hw2_⟩; replace E := (E.wh hw_).wh hw2_; clear hw_ hw2_; have hc_ := E.cls; (repeat (obtain ⟨c_, f_, hc_⟩ := hc_)); clear hc_) | (go_at_call 96; refine env_call E (rtext_calls (q := -q) E.getW E.getW (Rat.neg_num q).symm (by rw [dn_den, Rat.neg_den]) (HL.out.1.neg.mono (by omega)) ((HL.out.2.dn (by omega)).mono (by omega))) ?_; clear E; rintro e wc E rfl; have hc_ := E.cls; (repeat (obtain ⟨c_, f_, hc_⟩ := hc_)); clear hc_))
    go_ret
    exact ⟨E.below, rfl⟩
theorem rfloor_calls (W : World) (a : ByteArray) (hs : a.size ≤ 9000000000000) : Calls Tryz.prog 36 #[.string a] W fun e w' => Below W.heap.size W w' ∧ e = .returned (.tuple ((rv a).elim #[.string ⟨#[]⟩, .int .i64 1] fun q => #[.string (TX q.floor), .int .i64 0])) := by
  have E := Env.start W
  have HS := Aside0.mk hs
  cases h : rv a with
  | none =>
    have HR := Aside0.mk h
    clear h hs
    go_enter Tryz.func36, Tryz.ntmps36
    go_wp2_with (first | ((with_reducible first | refine gate_box (by rfl) ?_ | refine gate_alloc (by rfl) ?_); refine bx_ E ?_; clear E; intro gb wb E; have hc_ := E.cls; (repeat (obtain ⟨c_, f_, hc_⟩ := hc_)); clear hc_) | (go_at_call 104; refine env_call E (rr_none _ HR.out HS.out) ?_; clear E; rintro e wc E ⟨zr, zr2, br, Ar, nr, cr, br2, Ar2, nr2, cr2, rfl, hw_, hw2_⟩; replace E := (E.wh hw_).wh hw2_; clear hw_ hw2_; have hc_ := E.cls; (repeat (obtain ⟨c_, f_, hc_⟩ := hc_)); clear hc_) | ((with_reducible refine gate_stored (t := 77) (by rfl) ?_); refine st_ (fun ws hs_ => ?_); replace E := Env.pt2 hs_ E; clear hs_; have hc_ := E.cls; (repeat (obtain ⟨c_, f_, hc_⟩ := hc_)); clear hc_) | ((with_reducible refine gate_stored (t := 84) (by rfl) ?_); refine st_ (fun ws hs_ => ?_); replace E := Env.pt4 hs_ E; clear hs_; have hc_ := E.cls; (repeat (obtain ⟨c_, f_, hc_⟩ := hc_)); clear hc_))
    refine bodyPost_ret (results_list (rs := [.tmp _, .tmp _]) rfl (by simp) (.tmp (.tmp .nil))) rfl ?_
    exact ⟨E.below, rfl⟩
  | some q =>
    have HR := Aside0.mk h
    have HL := Aside0.mk (rv_ln (rv_some h).2)
    clear h hs
    go_enter Tryz.func36, Tryz.ntmps36
    go_wp2_with (first | ((with_reducible first | refine gate_box (by rfl) ?_ | refine gate_alloc (by rfl) ?_); refine bx_ E ?_; clear E; intro gb wb E; have hc_ := E.cls; (repeat (obtain ⟨c_, f_, hc_⟩ := hc_)); clear hc_) | (go_at_call 104; refine env_call E (rr_some _ HR.out HS.out) ?_; clear E; rintro e wc E ⟨br, Ar, nr, cr, br2, Ar2, nr2, cr2, rfl, hw_, hw2_⟩; replace E := (E.wh hw_).wh hw2_; clear hw_ hw2_; have hc_ := E.cls; (repeat (obtain ⟨c_, f_, hc_⟩ := hc_)); clear hc_) | ((with_reducible refine gate_stored (t := 77) (by rfl) ?_); refine st_ (fun ws hs_ => ?_); replace E := Env.pt2 hs_ E; clear hs_; have hc_ := E.cls; (repeat (obtain ⟨c_, f_, hc_⟩ := hc_)); clear hc_) | ((with_reducible refine gate_stored (t := 84) (by rfl) ?_); refine st_ (fun ws hs_ => ?_); replace E := Env.pt4 hs_ E; clear hs_; have hc_ := E.cls; (repeat (obtain ⟨c_, f_, hc_⟩ := hc_)); clear hc_) | (go_at_call 124; refine env_call E (floor_calls E.getW E.getW (HL.out.1.fits (by omega)) ((HL.out.2.dn (by omega)).fits (by omega))) ?_; clear E; rintro e wc E ⟨br, Ar, nr, cr, rfl, hw_⟩; replace E := E.wh hw_; clear hw_; have hc_ := E.cls; (repeat (obtain ⟨c_, f_, hc_⟩ := hc_)); clear hc_) | (go_at_call 114; refine env_call E (text_calls E.getW ((ln_floor HL.out.1).mono (by omega))) ?_; clear E; rintro e wc E rfl; have hc_ := E.cls; (repeat (obtain ⟨c_, f_, hc_⟩ := hc_)); clear hc_))
    refine bodyPost_ret (results_list (rs := [.tmp _, .tmp _]) rfl (by simp) (.tmp (.tmp .nil))) rfl ?_
    exact ⟨E.below, by rw [fl_floor]; rfl⟩
def RPP (x y : Rat) (e : Ending) (w' : World) : Prop := ∃ b1 A1 x1 c1 b2 A2 x2 c2 b3 A3 x3 c3 b4 A4 x4 c4, e = .returned (.tuple #[.agg #[.bool b1, .slice A1 x1 c1, .bool b2, .slice A2 x2 c2], .agg #[.bool b3, .slice A3 x3 c3, .bool b4, .slice A4 x4 c4], .int .i64 0]) ∧ Wh w' b1 (.slice A1 x1 c1) x.num ∧ Wh w' b2 (.slice A2 x2 c2) x.den ∧ Wh w' b3 (.slice A3 x3 c3) y.num ∧ Wh w' b4 (.slice A4 x4 c4) y.den
def RPPz (e : Ending) (w' : World) : Prop := ∃ z1 z2 z3 z4 b1 A1 x1 c1 b2 A2 x2 c2 b3 A3 x3 c3 b4 A4 x4 c4, e = .returned (.tuple #[.agg #[.bool b1, .slice A1 x1 c1, .bool b2, .slice A2 x2 c2], .agg #[.bool b3, .slice A3 x3 c3, .bool b4, .slice A4 x4 c4], .int .i64 1]) ∧ Wh w' b1 (.slice A1 x1 c1) z1 ∧ Wh w' b2 (.slice A2 x2 c2) z2 ∧ Wh w' b3 (.slice A3 x3 c3) z3 ∧ Wh w' b4 (.slice A4 x4 c4) z4
theorem pair_ss (W : World) {a b : ByteArray} {x : Rat} {y : Rat} (ha : rv a = some x) (hb : rv b = some y) (hsa : a.size ≤ 9000000000000) (hsb : b.size ≤ 9000000000000) : Calls Tryz.prog 100 #[.string a, .string b] W fun e w' => Below W.heap.size W w' ∧ RPP x y e w' := by
  have E := Env.start W
  have HA := Aside0.mk ha
  have HB := Aside0.mk hb
  have HSA := Aside0.mk hsa
  have HSB := Aside0.mk hsb
  clear ha hb hsa hsb
  go_enter Tryz.func100, Tryz.ntmps100
  go_wp2_with (first | ((with_reducible first | refine gate_box (by rfl) ?_ | refine gate_alloc (by rfl) ?_); refine bx_ E ?_; clear E; intro gb wb E; have hc_ := E.cls; (repeat (obtain ⟨c_, f_, hc_⟩ := hc_)); clear hc_) | (go_at_call 104; refine env_call E (rr_some _ HA.out HSA.out) ?_; clear E; rintro e wc E ⟨br, Ar, nr, cr, br2, Ar2, nr2, cr2, rfl, hw_, hw2_⟩; replace E := (E.wh hw_).wh hw2_; clear hw_ hw2_; have hc_ := E.cls; (repeat (obtain ⟨c_, f_, hc_⟩ := hc_)); clear hc_) | (go_at_call 104; refine env_call E (rr_some _ HB.out HSB.out) ?_; clear E; rintro e wc E ⟨br, Ar, nr, cr, br2, Ar2, nr2, cr2, rfl, hw_, hw2_⟩; replace E := (E.wh hw_).wh hw2_; clear hw_ hw2_; have hc_ := E.cls; (repeat (obtain ⟨c_, f_, hc_⟩ := hc_)); clear hc_) | ((with_reducible refine gate_stored (t := 77) (by rfl) ?_); refine st_ (fun ws hs_ => ?_); replace E := Env.pt2 hs_ E; clear hs_; have hc_ := E.cls; (repeat (obtain ⟨c_, f_, hc_⟩ := hc_)); clear hc_) | ((with_reducible refine gate_stored (t := 84) (by rfl) ?_); refine st_ (fun ws hs_ => ?_); replace E := Env.pt4 hs_ E; clear hs_; have hc_ := E.cls; (repeat (obtain ⟨c_, f_, hc_⟩ := hc_)); clear hc_) | (refine start_ (id := 5) (n := 5) (S := fun w' => Cls w' _) (ds := []) (bz 5 0) (by kernel_rfl) rfl rfl E.draw.cls (fun hHeld => ?_); replace E := E.draw; refine ta_ 0 (some 27) (bz 5 1) hHeld ?_; refine ta_ 1 (some 28) (bz 5 3) hHeld ?_; refine on_ 2 (none) (bz 5 7) (fun K hK => ?_); have hc_ := E.cls; (repeat (obtain ⟨c_, f_, hc_⟩ := hc_)); clear hc_; refine sk_ (fun ws hs_ => ?_); replace E := Env.pt4 hs_ E; clear hs_; refine hK.out _ _ E.cls (fun hHeld => ?_); clear hK K; have hc_ := E.cls; (repeat (obtain ⟨c_, f_, hc_⟩ := hc_)); clear hc_; refine on_ 3 (none) (bz 5 15) (fun K hK => ?_); have hc_ := E.cls; (repeat (obtain ⟨c_, f_, hc_⟩ := hc_)); clear hc_; refine sk_ (fun ws hs_ => ?_); replace E := Env.pt4 hs_ E; clear hs_; refine hK.out _ _ E.cls (fun hHeld => ?_); clear hK K; have hc_ := E.cls; (repeat (obtain ⟨c_, f_, hc_⟩ := hc_)); clear hc_; refine pu_ 4 (some 6) (bz 5 31) ?_; refine done_ (by kernel_rfl) ?_; all_goals (have hc_ := E.cls; (repeat (obtain ⟨c_, f_, hc_⟩ := hc_)); clear hc_)))
  refine bodyPost_ret (results_list (rs := [.cell _ 84, .cell _ 84, .tmp _]) rfl (by simp) (.cell _ _ _ (0, 0) _ rfl (by first | exact (E.bxs.at (i := 0) rfl).2.1 | exact (E.bxs.at (i := 1) rfl).2.1 | exact (E.bxs.at (i := 2) rfl).2.1 | exact (E.bxs.at (i := 3) rfl).2.1 | exact (E.bxs.at (i := 4) rfl).2.1 | exact (E.bxs.at (i := 5) rfl).2.1 | exact (E.bxs.at (i := 6) rfl).2.1 | exact (E.bxs.at (i := 7) rfl).2.1 | exact (E.bxs.at (i := 8) rfl).2.1 | exact (E.bxs.at (i := 9) rfl).2.1) Tryz.underlying84 rfl (by kernel_rfl) (.cell _ _ _ (0, 0) _ rfl (by first | exact (E.bxs.at (i := 0) rfl).2.1 | exact (E.bxs.at (i := 1) rfl).2.1 | exact (E.bxs.at (i := 2) rfl).2.1 | exact (E.bxs.at (i := 3) rfl).2.1 | exact (E.bxs.at (i := 4) rfl).2.1 | exact (E.bxs.at (i := 5) rfl).2.1 | exact (E.bxs.at (i := 6) rfl).2.1 | exact (E.bxs.at (i := 7) rfl).2.1 | exact (E.bxs.at (i := 8) rfl).2.1 | exact (E.bxs.at (i := 9) rfl).2.1) Tryz.underlying84 rfl (by kernel_rfl) (.tmp .nil)))) rfl ?_
  exact ⟨E.below, _, _, _, _, _, _, _, _, _, _, _, _, _, _, _, _, rfl, E.getW, E.getW, E.getW, E.getW⟩
theorem pair_sn (W : World) {a b : ByteArray} {x : Rat} (ha : rv a = some x) (hb : rv b = none) (hsa : a.size ≤ 9000000000000) (hsb : b.size ≤ 9000000000000) : Calls Tryz.prog 100 #[.string a, .string b] W fun e w' => Below W.heap.size W w' ∧ RPPz e w' := by
  have E := Env.start W
  have HA := Aside0.mk ha
  have HB := Aside0.mk hb
  have HSA := Aside0.mk hsa
  have HSB := Aside0.mk hsb
  clear ha hb hsa hsb
  go_enter Tryz.func100, Tryz.ntmps100
  go_wp2_with (first | ((with_reducible first | refine gate_box (by rfl) ?_ | refine gate_alloc (by rfl) ?_); refine bx_ E ?_; clear E; intro gb wb E; have hc_ := E.cls; (repeat (obtain ⟨c_, f_, hc_⟩ := hc_)); clear hc_) | (go_at_call 104; refine env_call E (rr_some _ HA.out HSA.out) ?_; clear E; rintro e wc E ⟨br, Ar, nr, cr, br2, Ar2, nr2, cr2, rfl, hw_, hw2_⟩; replace E := (E.wh hw_).wh hw2_; clear hw_ hw2_; have hc_ := E.cls; (repeat (obtain ⟨c_, f_, hc_⟩ := hc_)); clear hc_) | (go_at_call 104; refine env_call E (rr_none _ HB.out HSB.out) ?_; clear E; rintro e wc E ⟨zr, zr2, br, Ar, nr, cr, br2, Ar2, nr2, cr2, rfl, hw_, hw2_⟩; replace E := (E.wh hw_).wh hw2_; clear hw_ hw2_; have hc_ := E.cls; (repeat (obtain ⟨c_, f_, hc_⟩ := hc_)); clear hc_) | ((with_reducible refine gate_stored (t := 77) (by rfl) ?_); refine st_ (fun ws hs_ => ?_); replace E := Env.pt2 hs_ E; clear hs_; have hc_ := E.cls; (repeat (obtain ⟨c_, f_, hc_⟩ := hc_)); clear hc_) | ((with_reducible refine gate_stored (t := 84) (by rfl) ?_); refine st_ (fun ws hs_ => ?_); replace E := Env.pt4 hs_ E; clear hs_; have hc_ := E.cls; (repeat (obtain ⟨c_, f_, hc_⟩ := hc_)); clear hc_) | (refine start_ (id := 4) (n := 5) (S := fun w' => Cls w' _) (ds := []) (bz 5 0) (by kernel_rfl) rfl rfl E.draw.cls (fun hHeld => ?_); replace E := E.draw; refine ta_ 0 (some 25) (bz 5 1) hHeld ?_; refine ta_ 1 (some 26) (bz 5 3) hHeld ?_; refine on_ 2 (none) (bz 5 7) (fun K hK => ?_); have hc_ := E.cls; (repeat (obtain ⟨c_, f_, hc_⟩ := hc_)); clear hc_; refine sk_ (fun ws hs_ => ?_); replace E := Env.pt4 hs_ E; clear hs_; refine hK.out _ _ E.cls (fun hHeld => ?_); clear hK K; have hc_ := E.cls; (repeat (obtain ⟨c_, f_, hc_⟩ := hc_)); clear hc_; refine on_ 3 (none) (bz 5 15) (fun K hK => ?_); have hc_ := E.cls; (repeat (obtain ⟨c_, f_, hc_⟩ := hc_)); clear hc_; refine sk_ (fun ws hs_ => ?_); replace E := Env.pt4 hs_ E; clear hs_; refine hK.out _ _ E.cls (fun hHeld => ?_); clear hK K; have hc_ := E.cls; (repeat (obtain ⟨c_, f_, hc_⟩ := hc_)); clear hc_; refine pu_ 4 (some 6) (bz 5 31) ?_; refine done_ (by kernel_rfl) ?_; all_goals (have hc_ := E.cls; (repeat (obtain ⟨c_, f_, hc_⟩ := hc_)); clear hc_)))
  refine bodyPost_ret (results_list (rs := [.cell _ 84, .cell _ 84, .tmp _]) rfl (by simp) (.cell _ _ _ (0, 0) _ rfl (by first | exact (E.bxs.at (i := 0) rfl).2.1 | exact (E.bxs.at (i := 1) rfl).2.1 | exact (E.bxs.at (i := 2) rfl).2.1 | exact (E.bxs.at (i := 3) rfl).2.1 | exact (E.bxs.at (i := 4) rfl).2.1 | exact (E.bxs.at (i := 5) rfl).2.1 | exact (E.bxs.at (i := 6) rfl).2.1 | exact (E.bxs.at (i := 7) rfl).2.1 | exact (E.bxs.at (i := 8) rfl).2.1 | exact (E.bxs.at (i := 9) rfl).2.1) Tryz.underlying84 rfl (by kernel_rfl) (.cell _ _ _ (0, 0) _ rfl (by first | exact (E.bxs.at (i := 0) rfl).2.1 | exact (E.bxs.at (i := 1) rfl).2.1 | exact (E.bxs.at (i := 2) rfl).2.1 | exact (E.bxs.at (i := 3) rfl).2.1 | exact (E.bxs.at (i := 4) rfl).2.1 | exact (E.bxs.at (i := 5) rfl).2.1 | exact (E.bxs.at (i := 6) rfl).2.1 | exact (E.bxs.at (i := 7) rfl).2.1 | exact (E.bxs.at (i := 8) rfl).2.1 | exact (E.bxs.at (i := 9) rfl).2.1) Tryz.underlying84 rfl (by kernel_rfl) (.tmp .nil)))) rfl ?_
  exact ⟨E.below, _, _, _, _, _, _, _, _, _, _, _, _, _, _, _, _, _, _, _, _, rfl, E.getW, E.getW, E.getW, E.getW⟩
theorem pair_ns (W : World) {a b : ByteArray} {y : Rat} (ha : rv a = none) (hb : rv b = some y) (hsa : a.size ≤ 9000000000000) (hsb : b.size ≤ 9000000000000) : Calls Tryz.prog 100 #[.string a, .string b] W fun e w' => Below W.heap.size W w' ∧ RPPz e w' := by
  have E := Env.start W
  have HA := Aside0.mk ha
  have HB := Aside0.mk hb
  have HSA := Aside0.mk hsa
  have HSB := Aside0.mk hsb
  clear ha hb hsa hsb
  go_enter Tryz.func100, Tryz.ntmps100
  go_wp2_with (first | ((with_reducible first | refine gate_box (by rfl) ?_ | refine gate_alloc (by rfl) ?_); refine bx_ E ?_; clear E; intro gb wb E; have hc_ := E.cls; (repeat (obtain ⟨c_, f_, hc_⟩ := hc_)); clear hc_) | (go_at_call 104; refine env_call E (rr_none _ HA.out HSA.out) ?_; clear E; rintro e wc E ⟨zr, zr2, br, Ar, nr, cr, br2, Ar2, nr2, cr2, rfl, hw_, hw2_⟩; replace E := (E.wh hw_).wh hw2_; clear hw_ hw2_; have hc_ := E.cls; (repeat (obtain ⟨c_, f_, hc_⟩ := hc_)); clear hc_) | (go_at_call 104; refine env_call E (rr_some _ HB.out HSB.out) ?_; clear E; rintro e wc E ⟨br, Ar, nr, cr, br2, Ar2, nr2, cr2, rfl, hw_, hw2_⟩; replace E := (E.wh hw_).wh hw2_; clear hw_ hw2_; have hc_ := E.cls; (repeat (obtain ⟨c_, f_, hc_⟩ := hc_)); clear hc_) | ((with_reducible refine gate_stored (t := 77) (by rfl) ?_); refine st_ (fun ws hs_ => ?_); replace E := Env.pt2 hs_ E; clear hs_; have hc_ := E.cls; (repeat (obtain ⟨c_, f_, hc_⟩ := hc_)); clear hc_) | ((with_reducible refine gate_stored (t := 84) (by rfl) ?_); refine st_ (fun ws hs_ => ?_); replace E := Env.pt4 hs_ E; clear hs_; have hc_ := E.cls; (repeat (obtain ⟨c_, f_, hc_⟩ := hc_)); clear hc_) | (refine start_ (id := 4) (n := 5) (S := fun w' => Cls w' _) (ds := []) (bz 5 0) (by kernel_rfl) rfl rfl E.draw.cls (fun hHeld => ?_); replace E := E.draw; refine ta_ 0 (some 25) (bz 5 1) hHeld ?_; refine ta_ 1 (some 26) (bz 5 3) hHeld ?_; refine on_ 2 (none) (bz 5 7) (fun K hK => ?_); have hc_ := E.cls; (repeat (obtain ⟨c_, f_, hc_⟩ := hc_)); clear hc_; refine sk_ (fun ws hs_ => ?_); replace E := Env.pt4 hs_ E; clear hs_; refine hK.out _ _ E.cls (fun hHeld => ?_); clear hK K; have hc_ := E.cls; (repeat (obtain ⟨c_, f_, hc_⟩ := hc_)); clear hc_; refine on_ 3 (none) (bz 5 15) (fun K hK => ?_); have hc_ := E.cls; (repeat (obtain ⟨c_, f_, hc_⟩ := hc_)); clear hc_; refine sk_ (fun ws hs_ => ?_); replace E := Env.pt4 hs_ E; clear hs_; refine hK.out _ _ E.cls (fun hHeld => ?_); clear hK K; have hc_ := E.cls; (repeat (obtain ⟨c_, f_, hc_⟩ := hc_)); clear hc_; refine pu_ 4 (some 6) (bz 5 31) ?_; refine done_ (by kernel_rfl) ?_; all_goals (have hc_ := E.cls; (repeat (obtain ⟨c_, f_, hc_⟩ := hc_)); clear hc_)))
  refine bodyPost_ret (results_list (rs := [.cell _ 84, .cell _ 84, .tmp _]) rfl (by simp) (.cell _ _ _ (0, 0) _ rfl (by first | exact (E.bxs.at (i := 0) rfl).2.1 | exact (E.bxs.at (i := 1) rfl).2.1 | exact (E.bxs.at (i := 2) rfl).2.1 | exact (E.bxs.at (i := 3) rfl).2.1 | exact (E.bxs.at (i := 4) rfl).2.1 | exact (E.bxs.at (i := 5) rfl).2.1 | exact (E.bxs.at (i := 6) rfl).2.1 | exact (E.bxs.at (i := 7) rfl).2.1 | exact (E.bxs.at (i := 8) rfl).2.1 | exact (E.bxs.at (i := 9) rfl).2.1) Tryz.underlying84 rfl (by kernel_rfl) (.cell _ _ _ (0, 0) _ rfl (by first | exact (E.bxs.at (i := 0) rfl).2.1 | exact (E.bxs.at (i := 1) rfl).2.1 | exact (E.bxs.at (i := 2) rfl).2.1 | exact (E.bxs.at (i := 3) rfl).2.1 | exact (E.bxs.at (i := 4) rfl).2.1 | exact (E.bxs.at (i := 5) rfl).2.1 | exact (E.bxs.at (i := 6) rfl).2.1 | exact (E.bxs.at (i := 7) rfl).2.1 | exact (E.bxs.at (i := 8) rfl).2.1 | exact (E.bxs.at (i := 9) rfl).2.1) Tryz.underlying84 rfl (by kernel_rfl) (.tmp .nil)))) rfl ?_
  exact ⟨E.below, _, _, _, _, _, _, _, _, _, _, _, _, _, _, _, _, _, _, _, _, rfl, E.getW, E.getW, E.getW, E.getW⟩
theorem pair_nn (W : World) {a b : ByteArray} (ha : rv a = none) (hb : rv b = none) (hsa : a.size ≤ 9000000000000) (hsb : b.size ≤ 9000000000000) : Calls Tryz.prog 100 #[.string a, .string b] W fun e w' => Below W.heap.size W w' ∧ RPPz e w' := by
  have E := Env.start W
  have HA := Aside0.mk ha
  have HB := Aside0.mk hb
  have HSA := Aside0.mk hsa
  have HSB := Aside0.mk hsb
  clear ha hb hsa hsb
  go_enter Tryz.func100, Tryz.ntmps100
  go_wp2_with (first | ((with_reducible first | refine gate_box (by rfl) ?_ | refine gate_alloc (by rfl) ?_); refine bx_ E ?_; clear E; intro gb wb E; have hc_ := E.cls; (repeat (obtain ⟨c_, f_, hc_⟩ := hc_)); clear hc_) | (go_at_call 104; refine env_call E (rr_none _ HA.out HSA.out) ?_; clear E; rintro e wc E ⟨zr, zr2, br, Ar, nr, cr, br2, Ar2, nr2, cr2, rfl, hw_, hw2_⟩; replace E := (E.wh hw_).wh hw2_; clear hw_ hw2_; have hc_ := E.cls; (repeat (obtain ⟨c_, f_, hc_⟩ := hc_)); clear hc_) | (go_at_call 104; refine env_call E (rr_none _ HB.out HSB.out) ?_; clear E; rintro e wc E ⟨zr, zr2, br, Ar, nr, cr, br2, Ar2, nr2, cr2, rfl, hw_, hw2_⟩; replace E := (E.wh hw_).wh hw2_; clear hw_ hw2_; have hc_ := E.cls; (repeat (obtain ⟨c_, f_, hc_⟩ := hc_)); clear hc_) | ((with_reducible refine gate_stored (t := 77) (by rfl) ?_); refine st_ (fun ws hs_ => ?_); replace E := Env.pt2 hs_ E; clear hs_; have hc_ := E.cls; (repeat (obtain ⟨c_, f_, hc_⟩ := hc_)); clear hc_) | ((with_reducible refine gate_stored (t := 84) (by rfl) ?_); refine st_ (fun ws hs_ => ?_); replace E := Env.pt4 hs_ E; clear hs_; have hc_ := E.cls; (repeat (obtain ⟨c_, f_, hc_⟩ := hc_)); clear hc_) | (refine start_ (id := 4) (n := 5) (S := fun w' => Cls w' _) (ds := []) (bz 5 0) (by kernel_rfl) rfl rfl E.draw.cls (fun hHeld => ?_); replace E := E.draw; refine ta_ 0 (some 25) (bz 5 1) hHeld ?_; refine ta_ 1 (some 26) (bz 5 3) hHeld ?_; refine on_ 2 (none) (bz 5 7) (fun K hK => ?_); have hc_ := E.cls; (repeat (obtain ⟨c_, f_, hc_⟩ := hc_)); clear hc_; refine sk_ (fun ws hs_ => ?_); replace E := Env.pt4 hs_ E; clear hs_; refine hK.out _ _ E.cls (fun hHeld => ?_); clear hK K; have hc_ := E.cls; (repeat (obtain ⟨c_, f_, hc_⟩ := hc_)); clear hc_; refine on_ 3 (none) (bz 5 15) (fun K hK => ?_); have hc_ := E.cls; (repeat (obtain ⟨c_, f_, hc_⟩ := hc_)); clear hc_; refine sk_ (fun ws hs_ => ?_); replace E := Env.pt4 hs_ E; clear hs_; refine hK.out _ _ E.cls (fun hHeld => ?_); clear hK K; have hc_ := E.cls; (repeat (obtain ⟨c_, f_, hc_⟩ := hc_)); clear hc_; refine pu_ 4 (some 6) (bz 5 31) ?_; refine done_ (by kernel_rfl) ?_; all_goals (have hc_ := E.cls; (repeat (obtain ⟨c_, f_, hc_⟩ := hc_)); clear hc_)))
  refine bodyPost_ret (results_list (rs := [.cell _ 84, .cell _ 84, .tmp _]) rfl (by simp) (.cell _ _ _ (0, 0) _ rfl (by first | exact (E.bxs.at (i := 0) rfl).2.1 | exact (E.bxs.at (i := 1) rfl).2.1 | exact (E.bxs.at (i := 2) rfl).2.1 | exact (E.bxs.at (i := 3) rfl).2.1 | exact (E.bxs.at (i := 4) rfl).2.1 | exact (E.bxs.at (i := 5) rfl).2.1 | exact (E.bxs.at (i := 6) rfl).2.1 | exact (E.bxs.at (i := 7) rfl).2.1 | exact (E.bxs.at (i := 8) rfl).2.1 | exact (E.bxs.at (i := 9) rfl).2.1) Tryz.underlying84 rfl (by kernel_rfl) (.cell _ _ _ (0, 0) _ rfl (by first | exact (E.bxs.at (i := 0) rfl).2.1 | exact (E.bxs.at (i := 1) rfl).2.1 | exact (E.bxs.at (i := 2) rfl).2.1 | exact (E.bxs.at (i := 3) rfl).2.1 | exact (E.bxs.at (i := 4) rfl).2.1 | exact (E.bxs.at (i := 5) rfl).2.1 | exact (E.bxs.at (i := 6) rfl).2.1 | exact (E.bxs.at (i := 7) rfl).2.1 | exact (E.bxs.at (i := 8) rfl).2.1 | exact (E.bxs.at (i := 9) rfl).2.1) Tryz.underlying84 rfl (by kernel_rfl) (.tmp .nil)))) rfl ?_
  exact ⟨E.below, _, _, _, _, _, _, _, _, _, _, _, _, _, _, _, _, _, _, _, _, rfl, E.getW, E.getW, E.getW, E.getW⟩
theorem pair_none (W : World) {a b : ByteArray} (h : rv a = none ∨ rv b = none) (hsa : a.size ≤ 9000000000000) (hsb : b.size ≤ 9000000000000) : Calls Tryz.prog 100 #[.string a, .string b] W fun e w' => Below W.heap.size W w' ∧ RPPz e w' := by
  cases ha : rv a with
  | none =>
    cases hb : rv b with
    | none => exact pair_nn W ha hb hsa hsb
    | some y => exact pair_ns W ha hb hsa hsb
  | some x => exact pair_sn W ha (h.resolve_left (by rw [ha]; simp)) hsa hsb
def two (a b : ByteArray) (f : Rat → Rat → ByteArray × Int) : ByteArray × Int := match rv a, rv b with
  | some x, some y => f x y
  | _, _ => (⟨#[]⟩, 1)
def res (q : Rat) : ByteArray × Int := (resA q, resE q)
theorem two_none {a b : ByteArray} {f : Rat → Rat → ByteArray × Int} (h : rv a = none ∨ rv b = none) : two a b f = (⟨#[]⟩, 1) := by
  unfold two
  rcases h with h | h
  · rw [h]
  · rw [h]; cases rv a <;> rfl
theorem two_some {a b : ByteArray} {f : Rat → Rat → ByteArray × Int} {x y : Rat} (ha : rv a = some x) (hb : rv b = some y) : two a b f = f x y := by
  unfold two
  rw [ha, hb]
theorem rv_lnq {a : ByteArray} {x : Rat} (h : rv a = some x) : Lnq x 112 := rv_ln (rv_some h).2
theorem radde_calls (W : World) (a b : ByteArray) (hsa : a.size ≤ 9000000000000) (hsb : b.size ≤ 9000000000000) : Calls Tryz.prog 66 #[.string a, .string b] W fun e w' => Below W.heap.size W w' ∧ e = .returned (.tuple #[.string (two a b (fun x y => res (x + y))).1, .int .i64 (two a b (fun x y => res (x + y))).2]) := by
  have E := Env.start W
  have HSA := Aside0.mk hsa
  have HSB := Aside0.mk hsb
  by_cases h : rv a = none ∨ rv b = none
  · rw [two_none h]
    have HN := Aside0.mk h
    clear h hsa hsb
    go_enter Tryz.func66, Tryz.ntmps66
    go_wp2_with (first | ((with_reducible first | refine gate_box (by rfl) ?_ | refine gate_alloc (by rfl) ?_); refine bx_ E ?_; clear E; intro gb wb E; have hc_ := E.cls; (repeat (obtain ⟨c_, f_, hc_⟩ := hc_)); clear hc_) | (go_at_call 100; refine env_call E (pair_none _ HN.out HSA.out HSB.out) ?_; clear E; rintro e wc E ⟨zr, zr2, zr3, zr4, br, Ar, nr, cr, br2, Ar2, nr2, cr2, br3, Ar3, nr3, cr3, br4, Ar4, nr4, cr4, rfl, hw_, hw2_, hw3_, hw4_⟩; replace E := (((E.wh hw_).wh hw2_).wh hw3_).wh hw4_; clear hw_ hw2_ hw3_ hw4_; have hc_ := E.cls; (repeat (obtain ⟨c_, f_, hc_⟩ := hc_)); clear hc_) | ((with_reducible refine gate_stored (t := 77) (by rfl) ?_); refine st_ (fun ws hs_ => ?_); replace E := Env.pt2 hs_ E; clear hs_; have hc_ := E.cls; (repeat (obtain ⟨c_, f_, hc_⟩ := hc_)); clear hc_) | ((with_reducible refine gate_stored (t := 84) (by rfl) ?_); refine st_ (fun ws hs_ => ?_); replace E := Env.pt4 hs_ E; clear hs_; have hc_ := E.cls; (repeat (obtain ⟨c_, f_, hc_⟩ := hc_)); clear hc_))
    refine bodyPost_ret (results_list (rs := [.tmp _, .tmp _]) rfl (by simp) (.tmp (.tmp .nil))) rfl ?_
    exact ⟨E.below, rfl⟩
  · obtain ⟨x, ha⟩ : ∃ x, rv a = some x := Option.ne_none_iff_exists'.1 (fun e => h (.inl e))
    obtain ⟨y, hb⟩ : ∃ y, rv b = some y := Option.ne_none_iff_exists'.1 (fun e => h (.inr e))
    rw [two_some ha hb]
    have HA := Aside0.mk ha
    have HB := Aside0.mk hb
    have HX := Aside0.mk (rv_lnq ha)
    have HY := Aside0.mk (rv_lnq hb)
    clear h ha hb hsa hsb
    go_enter Tryz.func66, Tryz.ntmps66
    go_wp2_with (first | ((with_reducible first | refine gate_box (by rfl) ?_ | refine gate_alloc (by rfl) ?_); refine bx_ E ?_; clear E; intro gb wb E; have hc_ := E.cls; (repeat (obtain ⟨c_, f_, hc_⟩ := hc_)); clear hc_) | (go_at_call 100; refine env_call E (pair_ss _ HA.out HB.out HSA.out HSB.out) ?_; clear E; rintro e wc E ⟨br, Ar, nr, cr, br2, Ar2, nr2, cr2, br3, Ar3, nr3, cr3, br4, Ar4, nr4, cr4, rfl, hw_, hw2_, hw3_, hw4_⟩; replace E := (((E.wh hw_).wh hw2_).wh hw3_).wh hw4_; clear hw_ hw2_ hw3_ hw4_; have hc_ := E.cls; (repeat (obtain ⟨c_, f_, hc_⟩ := hc_)); clear hc_) | ((with_reducible refine gate_stored (t := 77) (by rfl) ?_); refine st_ (fun ws hs_ => ?_); replace E := Env.pt2 hs_ E; clear hs_; have hc_ := E.cls; (repeat (obtain ⟨c_, f_, hc_⟩ := hc_)); clear hc_) | ((with_reducible refine gate_stored (t := 84) (by rfl) ?_); refine st_ (fun ws hs_ => ?_); replace E := Env.pt4 hs_ E; clear hs_; have hc_ := E.cls; (repeat (obtain ⟨c_, f_, hc_⟩ := hc_)); clear hc_) | (go_at_call 115; refine env_call E (radd_calls E.getW E.getW E.getW E.getW HX.out.1 (HX.out.2) (HY.out.1) (HY.out.2) (by omega) (by omega)) ?_; clear E; rintro e wc E ⟨br, Ar, nr, cr, br2, Ar2, nr2, cr2, rfl, hw_, hw2_⟩; replace E := (E.wh hw_).wh hw2_; clear hw_ hw2_; have hc_ := E.cls; (repeat (obtain ⟨c_, f_, hc_⟩ := hc_)); clear hc_) | (go_at_call 87; refine env_call E (result_calls (q := x + y) E.getW E.getW (by simp only [rq_self]) (by simp only [rq_self, dn_den]) ((by simpa only [rq_self] using (lnq_add HX.out HY.out).1.mono (by omega)) : Ln _ 1000000000000) ((by simpa only [rq_self] using (lnq_add HX.out HY.out).2.mono (by omega)) : Ln _ 1000000000000)) ?_; clear E; rintro e wc E rfl; have hc_ := E.cls; (repeat (obtain ⟨c_, f_, hc_⟩ := hc_)); clear hc_))
    refine bodyPost_ret (results_list (rs := [.tmp _, .tmp _]) rfl (by simp) (.tmp (.tmp .nil))) rfl ?_
    exact ⟨E.below, rfl⟩
theorem rsube_calls (W : World) (a b : ByteArray) (hsa : a.size ≤ 9000000000000) (hsb : b.size ≤ 9000000000000) : Calls Tryz.prog 21 #[.string a, .string b] W fun e w' => Below W.heap.size W w' ∧ e = .returned (.tuple #[.string (two a b (fun x y => res (x - y))).1, .int .i64 (two a b (fun x y => res (x - y))).2]) := by
  have E := Env.start W
  have HSA := Aside0.mk hsa
  have HSB := Aside0.mk hsb
  by_cases h : rv a = none ∨ rv b = none
  · rw [two_none h]
    have HN := Aside0.mk h
    clear h hsa hsb
    go_enter Tryz.func21, Tryz.ntmps21
    go_wp2_with (first | ((with_reducible first | refine gate_box (by rfl) ?_ | refine gate_alloc (by rfl) ?_); refine bx_ E ?_; clear E; intro gb wb E; have hc_ := E.cls; (repeat (obtain ⟨c_, f_, hc_⟩ := hc_)); clear hc_) | (go_at_call 100; refine env_call E (pair_none _ HN.out HSA.out HSB.out) ?_; clear E; rintro e wc E ⟨zr, zr2, zr3, zr4, br, Ar, nr, cr, br2, Ar2, nr2, cr2, br3, Ar3, nr3, cr3, br4, Ar4, nr4, cr4, rfl, hw_, hw2_, hw3_, hw4_⟩; replace E := (((E.wh hw_).wh hw2_).wh hw3_).wh hw4_; clear hw_ hw2_ hw3_ hw4_; have hc_ := E.cls; (repeat (obtain ⟨c_, f_, hc_⟩ := hc_)); clear hc_) | ((with_reducible refine gate_stored (t := 77) (by rfl) ?_); refine st_ (fun ws hs_ => ?_); replace E := Env.pt2 hs_ E; clear hs_; have hc_ := E.cls; (repeat (obtain ⟨c_, f_, hc_⟩ := hc_)); clear hc_) | ((with_reducible refine gate_stored (t := 84) (by rfl) ?_); refine st_ (fun ws hs_ => ?_); replace E := Env.pt4 hs_ E; clear hs_; have hc_ := E.cls; (repeat (obtain ⟨c_, f_, hc_⟩ := hc_)); clear hc_))
    refine bodyPost_ret (results_list (rs := [.tmp _, .tmp _]) rfl (by simp) (.tmp (.tmp .nil))) rfl ?_
    exact ⟨E.below, rfl⟩
  · obtain ⟨x, ha⟩ : ∃ x, rv a = some x := Option.ne_none_iff_exists'.1 (fun e => h (.inl e))
    obtain ⟨y, hb⟩ : ∃ y, rv b = some y := Option.ne_none_iff_exists'.1 (fun e => h (.inr e))
    rw [two_some ha hb]
    have HA := Aside0.mk ha
    have HB := Aside0.mk hb
    have HX := Aside0.mk (rv_lnq ha)
    have HY := Aside0.mk (rv_lnq hb)
    clear h ha hb hsa hsb
    go_enter Tryz.func21, Tryz.ntmps21
    go_wp2_with (first | ((with_reducible first | refine gate_box (by rfl) ?_ | refine gate_alloc (by rfl) ?_); refine bx_ E ?_; clear E; intro gb wb E; have hc_ := E.cls; (repeat (obtain ⟨c_, f_, hc_⟩ := hc_)); clear hc_) | (go_at_call 100; refine env_call E (pair_ss _ HA.out HB.out HSA.out HSB.out) ?_; clear E; rintro e wc E ⟨br, Ar, nr, cr, br2, Ar2, nr2, cr2, br3, Ar3, nr3, cr3, br4, Ar4, nr4, cr4, rfl, hw_, hw2_, hw3_, hw4_⟩; replace E := (((E.wh hw_).wh hw2_).wh hw3_).wh hw4_; clear hw_ hw2_ hw3_ hw4_; have hc_ := E.cls; (repeat (obtain ⟨c_, f_, hc_⟩ := hc_)); clear hc_) | ((with_reducible refine gate_stored (t := 77) (by rfl) ?_); refine st_ (fun ws hs_ => ?_); replace E := Env.pt2 hs_ E; clear hs_; have hc_ := E.cls; (repeat (obtain ⟨c_, f_, hc_⟩ := hc_)); clear hc_) | ((with_reducible refine gate_stored (t := 84) (by rfl) ?_); refine st_ (fun ws hs_ => ?_); replace E := Env.pt4 hs_ E; clear hs_; have hc_ := E.cls; (repeat (obtain ⟨c_, f_, hc_⟩ := hc_)); clear hc_) | (go_at_call 101; refine env_call E (rsub_calls E.getW E.getW E.getW E.getW HX.out.1 (HX.out.2) (HY.out.1) (HY.out.2) (by omega) (by omega)) ?_; clear E; rintro e wc E ⟨br, Ar, nr, cr, br2, Ar2, nr2, cr2, rfl, hw_, hw2_⟩; replace E := (E.wh hw_).wh hw2_; clear hw_ hw2_; have hc_ := E.cls; (repeat (obtain ⟨c_, f_, hc_⟩ := hc_)); clear hc_) | (go_at_call 87; refine env_call E (result_calls (q := x - y) E.getW E.getW (by simp only [rq_self]) (by simp only [rq_self, dn_den]) ((by simpa only [rq_self] using (lnq_sub HX.out HY.out).1.mono (by omega)) : Ln _ 1000000000000) ((by simpa only [rq_self] using (lnq_sub HX.out HY.out).2.mono (by omega)) : Ln _ 1000000000000)) ?_; clear E; rintro e wc E rfl; have hc_ := E.cls; (repeat (obtain ⟨c_, f_, hc_⟩ := hc_)); clear hc_))
    refine bodyPost_ret (results_list (rs := [.tmp _, .tmp _]) rfl (by simp) (.tmp (.tmp .nil))) rfl ?_
    exact ⟨E.below, rfl⟩
theorem rmule_calls (W : World) (a b : ByteArray) (hsa : a.size ≤ 9000000000000) (hsb : b.size ≤ 9000000000000) : Calls Tryz.prog 69 #[.string a, .string b] W fun e w' => Below W.heap.size W w' ∧ e = .returned (.tuple #[.string (two a b (fun x y => res (x * y))).1, .int .i64 (two a b (fun x y => res (x * y))).2]) := by
  have E := Env.start W
  have HSA := Aside0.mk hsa
  have HSB := Aside0.mk hsb
  by_cases h : rv a = none ∨ rv b = none
  · rw [two_none h]
    have HN := Aside0.mk h
    clear h hsa hsb
    go_enter Tryz.func69, Tryz.ntmps69
    go_wp2_with (first | ((with_reducible first | refine gate_box (by rfl) ?_ | refine gate_alloc (by rfl) ?_); refine bx_ E ?_; clear E; intro gb wb E; have hc_ := E.cls; (repeat (obtain ⟨c_, f_, hc_⟩ := hc_)); clear hc_) | (go_at_call 100; refine env_call E (pair_none _ HN.out HSA.out HSB.out) ?_; clear E; rintro e wc E ⟨zr, zr2, zr3, zr4, br, Ar, nr, cr, br2, Ar2, nr2, cr2, br3, Ar3, nr3, cr3, br4, Ar4, nr4, cr4, rfl, hw_, hw2_, hw3_, hw4_⟩; replace E := (((E.wh hw_).wh hw2_).wh hw3_).wh hw4_; clear hw_ hw2_ hw3_ hw4_; have hc_ := E.cls; (repeat (obtain ⟨c_, f_, hc_⟩ := hc_)); clear hc_) | ((with_reducible refine gate_stored (t := 77) (by rfl) ?_); refine st_ (fun ws hs_ => ?_); replace E := Env.pt2 hs_ E; clear hs_; have hc_ := E.cls; (repeat (obtain ⟨c_, f_, hc_⟩ := hc_)); clear hc_) | ((with_reducible refine gate_stored (t := 84) (by rfl) ?_); refine st_ (fun ws hs_ => ?_); replace E := Env.pt4 hs_ E; clear hs_; have hc_ := E.cls; (repeat (obtain ⟨c_, f_, hc_⟩ := hc_)); clear hc_))
    refine bodyPost_ret (results_list (rs := [.tmp _, .tmp _]) rfl (by simp) (.tmp (.tmp .nil))) rfl ?_
    exact ⟨E.below, rfl⟩
  · obtain ⟨x, ha⟩ : ∃ x, rv a = some x := Option.ne_none_iff_exists'.1 (fun e => h (.inl e))
    obtain ⟨y, hb⟩ : ∃ y, rv b = some y := Option.ne_none_iff_exists'.1 (fun e => h (.inr e))
    rw [two_some ha hb]
    have HA := Aside0.mk ha
    have HB := Aside0.mk hb
    have HX := Aside0.mk (rv_lnq ha)
    have HY := Aside0.mk (rv_lnq hb)
    clear h ha hb hsa hsb
    go_enter Tryz.func69, Tryz.ntmps69
    go_wp2_with (first | ((with_reducible first | refine gate_box (by rfl) ?_ | refine gate_alloc (by rfl) ?_); refine bx_ E ?_; clear E; intro gb wb E; have hc_ := E.cls; (repeat (obtain ⟨c_, f_, hc_⟩ := hc_)); clear hc_) | (go_at_call 100; refine env_call E (pair_ss _ HA.out HB.out HSA.out HSB.out) ?_; clear E; rintro e wc E ⟨br, Ar, nr, cr, br2, Ar2, nr2, cr2, br3, Ar3, nr3, cr3, br4, Ar4, nr4, cr4, rfl, hw_, hw2_, hw3_, hw4_⟩; replace E := (((E.wh hw_).wh hw2_).wh hw3_).wh hw4_; clear hw_ hw2_ hw3_ hw4_; have hc_ := E.cls; (repeat (obtain ⟨c_, f_, hc_⟩ := hc_)); clear hc_) | ((with_reducible refine gate_stored (t := 77) (by rfl) ?_); refine st_ (fun ws hs_ => ?_); replace E := Env.pt2 hs_ E; clear hs_; have hc_ := E.cls; (repeat (obtain ⟨c_, f_, hc_⟩ := hc_)); clear hc_) | ((with_reducible refine gate_stored (t := 84) (by rfl) ?_); refine st_ (fun ws hs_ => ?_); replace E := Env.pt4 hs_ E; clear hs_; have hc_ := E.cls; (repeat (obtain ⟨c_, f_, hc_⟩ := hc_)); clear hc_) | (go_at_call 138; refine env_call E (rmul_calls E.getW E.getW E.getW E.getW HX.out.1 (HX.out.2) (HY.out.1) (HY.out.2) (by omega) (by omega)) ?_; clear E; rintro e wc E ⟨br, Ar, nr, cr, br2, Ar2, nr2, cr2, rfl, hw_, hw2_⟩; replace E := (E.wh hw_).wh hw2_; clear hw_ hw2_; have hc_ := E.cls; (repeat (obtain ⟨c_, f_, hc_⟩ := hc_)); clear hc_) | (go_at_call 87; refine env_call E (result_calls (q := x * y) E.getW E.getW (by simp only [rq_self]) (by simp only [rq_self, dn_den]) ((by simpa only [rq_self] using (lnq_mul HX.out HY.out (by omega)).1.mono (by omega)) : Ln _ 1000000000000) ((by simpa only [rq_self] using (lnq_mul HX.out HY.out (by omega)).2.mono (by omega)) : Ln _ 1000000000000)) ?_; clear E; rintro e wc E rfl; have hc_ := E.cls; (repeat (obtain ⟨c_, f_, hc_⟩ := hc_)); clear hc_))
    refine bodyPost_ret (results_list (rs := [.tmp _, .tmp _]) rfl (by simp) (.tmp (.tmp .nil))) rfl ?_
    exact ⟨E.below, rfl⟩
theorem rdive_calls (W : World) (a b : ByteArray) (hsa : a.size ≤ 9000000000000) (hsb : b.size ≤ 9000000000000) : Calls Tryz.prog 22 #[.string a, .string b] W fun e w' => Below W.heap.size W w' ∧ e = .returned (.tuple #[.string (two a b (fun x y => if y.num = 0 then (⟨#[]⟩, 9) else res (x / y))).1, .int .i64 (two a b (fun x y => if y.num = 0 then (⟨#[]⟩, 9) else res (x / y))).2]) := by
  have E := Env.start W
  have HSA := Aside0.mk hsa
  have HSB := Aside0.mk hsb
  by_cases h : rv a = none ∨ rv b = none
  · rw [two_none h]
    have HN := Aside0.mk h
    clear h hsa hsb
    go_enter Tryz.func22, Tryz.ntmps22
    go_wp2_with (first | ((with_reducible first | refine gate_box (by rfl) ?_ | refine gate_alloc (by rfl) ?_); refine bx_ E ?_; clear E; intro gb wb E; have hc_ := E.cls; (repeat (obtain ⟨c_, f_, hc_⟩ := hc_)); clear hc_) | (go_at_call 100; refine env_call E (pair_none _ HN.out HSA.out HSB.out) ?_; clear E; rintro e wc E ⟨zr, zr2, zr3, zr4, br, Ar, nr, cr, br2, Ar2, nr2, cr2, br3, Ar3, nr3, cr3, br4, Ar4, nr4, cr4, rfl, hw_, hw2_, hw3_, hw4_⟩; replace E := (((E.wh hw_).wh hw2_).wh hw3_).wh hw4_; clear hw_ hw2_ hw3_ hw4_; have hc_ := E.cls; (repeat (obtain ⟨c_, f_, hc_⟩ := hc_)); clear hc_) | ((with_reducible refine gate_stored (t := 77) (by rfl) ?_); refine st_ (fun ws hs_ => ?_); replace E := Env.pt2 hs_ E; clear hs_; have hc_ := E.cls; (repeat (obtain ⟨c_, f_, hc_⟩ := hc_)); clear hc_) | ((with_reducible refine gate_stored (t := 84) (by rfl) ?_); refine st_ (fun ws hs_ => ?_); replace E := Env.pt4 hs_ E; clear hs_; have hc_ := E.cls; (repeat (obtain ⟨c_, f_, hc_⟩ := hc_)); clear hc_))
    refine bodyPost_ret (results_list (rs := [.tmp _, .tmp _]) rfl (by simp) (.tmp (.tmp .nil))) rfl ?_
    exact ⟨E.below, rfl⟩
  · obtain ⟨x, ha⟩ : ∃ x, rv a = some x := Option.ne_none_iff_exists'.1 (fun e => h (.inl e))
    obtain ⟨y, hb⟩ : ∃ y, rv b = some y := Option.ne_none_iff_exists'.1 (fun e => h (.inr e))
    rw [two_some ha hb]
    have HA := Aside0.mk ha
    have HB := Aside0.mk hb
    have HX := Aside0.mk (rv_lnq ha)
    have HY := Aside0.mk (rv_lnq hb)
    clear h ha hb hsa hsb
    by_cases h0 : y.num = 0
    · have hz : (sgnI y.num == 0) = true := by rw [h0]; rfl
      simp only [if_pos h0]
      clear h0
      go_enter Tryz.func22, Tryz.ntmps22
      go_wp2_with (first | ((with_reducible first | refine gate_box (by rfl) ?_ | refine gate_alloc (by rfl) ?_); refine bx_ E ?_; clear E; intro gb wb E; have hc_ := E.cls; (repeat (obtain ⟨c_, f_, hc_⟩ := hc_)); clear hc_) | (go_at_call 100; refine env_call E (pair_ss _ HA.out HB.out HSA.out HSB.out) ?_; clear E; rintro e wc E ⟨br, Ar, nr, cr, br2, Ar2, nr2, cr2, br3, Ar3, nr3, cr3, br4, Ar4, nr4, cr4, rfl, hw_, hw2_, hw3_, hw4_⟩; replace E := (((E.wh hw_).wh hw2_).wh hw3_).wh hw4_; clear hw_ hw2_ hw3_ hw4_; have hc_ := E.cls; (repeat (obtain ⟨c_, f_, hc_⟩ := hc_)); clear hc_) | ((with_reducible refine gate_stored (t := 77) (by rfl) ?_); refine st_ (fun ws hs_ => ?_); replace E := Env.pt2 hs_ E; clear hs_; have hc_ := E.cls; (repeat (obtain ⟨c_, f_, hc_⟩ := hc_)); clear hc_) | ((with_reducible refine gate_stored (t := 84) (by rfl) ?_); refine st_ (fun ws hs_ => ?_); replace E := Env.pt4 hs_ E; clear hs_; have hc_ := E.cls; (repeat (obtain ⟨c_, f_, hc_⟩ := hc_)); clear hc_) | (go_at_call 102; refine env_call E (rsign_calls E.getW E.getW) ?_; clear E; rintro e wc E rfl; have hc_ := E.cls; (repeat (obtain ⟨c_, f_, hc_⟩ := hc_)); clear hc_) | (go_at_call 103; refine env_call E (rquo_calls E.getW E.getW E.getW E.getW HX.out.1 (HX.out.2) (HY.out.1) (HY.out.2) (by omega) (by omega) H0.out) ?_; clear E; rintro e wc E ⟨br, Ar, nr, cr, br2, Ar2, nr2, cr2, rfl, hw_, hw2_⟩; replace E := (E.wh hw_).wh hw2_; clear hw_ hw2_; have hc_ := E.cls; (repeat (obtain ⟨c_, f_, hc_⟩ := hc_)); clear hc_) | (go_at_call 87; refine env_call E (result_calls (q := x / y) E.getW E.getW (by simp only [rq_self]) (by simp only [rq_self, dn_den]) ((by simpa only [rq_self] using (lnq_quo HX.out HY.out (by omega) H0.out).1.mono (by omega)) : Ln _ 1000000000000) ((by simpa only [rq_self] using (lnq_quo HX.out HY.out (by omega) H0.out).2.mono (by omega)) : Ln _ 1000000000000)) ?_; clear E; rintro e wc E rfl; have hc_ := E.cls; (repeat (obtain ⟨c_, f_, hc_⟩ := hc_)); clear hc_))
      refine bodyPost_ret (results_list (rs := [.tmp _, .tmp _]) rfl (by simp) (.tmp (.tmp .nil))) rfl ?_
      exact ⟨E.below, rfl⟩
    · have hz : (sgnI y.num == 0) = false := beq_eq_false_iff_ne.mpr (fun h => h0 ((sgnI_zero _).1 h))
      have H0 := Aside0.mk h0
      simp only [if_neg h0]
      clear h0
      go_enter Tryz.func22, Tryz.ntmps22
      go_wp2_with (first | ((with_reducible first | refine gate_box (by rfl) ?_ | refine gate_alloc (by rfl) ?_); refine bx_ E ?_; clear E; intro gb wb E; have hc_ := E.cls; (repeat (obtain ⟨c_, f_, hc_⟩ := hc_)); clear hc_) | (go_at_call 100; refine env_call E (pair_ss _ HA.out HB.out HSA.out HSB.out) ?_; clear E; rintro e wc E ⟨br, Ar, nr, cr, br2, Ar2, nr2, cr2, br3, Ar3, nr3, cr3, br4, Ar4, nr4, cr4, rfl, hw_, hw2_, hw3_, hw4_⟩; replace E := (((E.wh hw_).wh hw2_).wh hw3_).wh hw4_; clear hw_ hw2_ hw3_ hw4_; have hc_ := E.cls; (repeat (obtain ⟨c_, f_, hc_⟩ := hc_)); clear hc_) | ((with_reducible refine gate_stored (t := 77) (by rfl) ?_); refine st_ (fun ws hs_ => ?_); replace E := Env.pt2 hs_ E; clear hs_; have hc_ := E.cls; (repeat (obtain ⟨c_, f_, hc_⟩ := hc_)); clear hc_) | ((with_reducible refine gate_stored (t := 84) (by rfl) ?_); refine st_ (fun ws hs_ => ?_); replace E := Env.pt4 hs_ E; clear hs_; have hc_ := E.cls; (repeat (obtain ⟨c_, f_, hc_⟩ := hc_)); clear hc_) | (go_at_call 102; refine env_call E (rsign_calls E.getW E.getW) ?_; clear E; rintro e wc E rfl; have hc_ := E.cls; (repeat (obtain ⟨c_, f_, hc_⟩ := hc_)); clear hc_) | (go_at_call 103; refine env_call E (rquo_calls E.getW E.getW E.getW E.getW HX.out.1 (HX.out.2) (HY.out.1) (HY.out.2) (by omega) (by omega) H0.out) ?_; clear E; rintro e wc E ⟨br, Ar, nr, cr, br2, Ar2, nr2, cr2, rfl, hw_, hw2_⟩; replace E := (E.wh hw_).wh hw2_; clear hw_ hw2_; have hc_ := E.cls; (repeat (obtain ⟨c_, f_, hc_⟩ := hc_)); clear hc_) | (go_at_call 87; refine env_call E (result_calls (q := x / y) E.getW E.getW (by simp only [rq_self]) (by simp only [rq_self, dn_den]) ((by simpa only [rq_self] using (lnq_quo HX.out HY.out (by omega) H0.out).1.mono (by omega)) : Ln _ 1000000000000) ((by simpa only [rq_self] using (lnq_quo HX.out HY.out (by omega) H0.out).2.mono (by omega)) : Ln _ 1000000000000)) ?_; clear E; rintro e wc E rfl; have hc_ := E.cls; (repeat (obtain ⟨c_, f_, hc_⟩ := hc_)); clear hc_))
      refine bodyPost_ret (results_list (rs := [.tmp _, .tmp _]) rfl (by simp) (.tmp (.tmp .nil))) rfl ?_
      exact ⟨E.below, rfl⟩
end
end Go.Proofs.YtfmcgammhfdfnaaGreatDoor.PRatio
namespace Go.Proofs.YtfmcgammhfdfnaaGreatDoor.PRatio
open Go.RowKit Go.Proofs.YtfmcgammhfdfnaaGreatDoorW.PrintWords Go.Proofs.YtfmcgammhfdfnaaGreatDoorW.PrintLast Go.Proofs.YtfmcgammhfdfnaaGreatDoorW.PrintMore
set_option linter.unusedVariables false
set_option linter.unusedSimpArgs false
def RowN (e size base : Nat) (W : World) (v : Value) (n : Nat) (xs : List Value) : Prop := xs.length = n * size ∧ ((v = .slice none 0 0 ∧ n = 0) ∨
  ∃ g cap cs, v = .slice (some ⟨g, 0, none⟩) n cap ∧ base ≤ g ∧ W.heap[g]? = some (.cells (xs ++ cs).toArray e (0, 0)) ∧ n ≤ cap ∧ cap ≤ maxLen ∧ (xs ++ cs).length = cap * size ∧ (xs ++ cs).all nonInt = true)
section
variable {e size base : Nat} {W W' : World} {v : Value} {n : Nat} {xs : List Value}
theorem RowN.nil (e size base : Nat) (W : World) : RowN e size base W (.slice none 0 0) 0 [] := ⟨by simp, .inl ⟨rfl, rfl⟩⟩
theorem RowN.step (h : RowN e size base W v n xs) (hm : ∀ g, v.ownBlock = some g → g < W.heap.size → W'.heap[g]? = W.heap[g]?) : RowN e size base W' v n xs := by
  obtain ⟨h0, h⟩ := h
  refine ⟨h0, h.imp id ?_⟩
  rintro ⟨g, cap, cs, rfl, h1, h2, h3⟩
  exact ⟨g, cap, cs, rfl, h1, (hm g rfl (Array.getElem?_eq_some_iff.1 h2).1).trans h2, h3⟩
theorem RowN.below (h : RowN e size base W v n xs) (hb : Below W.heap.size W W') : RowN e size base W' v n xs := h.step fun g _ hg => hb.block g hg
theorem RowN.own (h : RowN e size base W v n xs) : W.ownsRow base e size v n xs := by
  refine ⟨h.1, h.2.imp id ?_⟩
  rintro ⟨g, cap, cs, rfl, h1, h2, h3, h4, h5, h6⟩
  exact ⟨g, cap, _, rfl, h1, h2, h3, h4, by simpa using h5, by rw [← h.1]; simp⟩
theorem RowN.ge (h : RowN e size base W v n xs) : ∀ g, v.ownBlock = some g → base ≤ g := by
  rcases h.2 with ⟨rfl, _⟩ | ⟨g, cap, cs, rfl, h1, _⟩
  · intro g h; cases h
  · intro g' h; cases h; exact h1
theorem zeroCells_nonInt {z : Array Value} (hz : z.toList.all nonInt = true) (n : Nat) : (Builtin.zeroCells z n).toList.all nonInt = true := by
  rw [List.all_eq_true] at hz ⊢
  intro x hx
  unfold Builtin.zeroCells at hx
  rw [Array.toList_map, List.mem_map] at hx
  obtain ⟨i, hi, rfl⟩ := hx
  rcases Nat.eq_zero_or_pos z.size with h0 | h0
  · rw [h0] at hi; simp at hi
  · have hlt : i % z.size < z.size := Nat.mod_lt _ h0
    rw [getElem!_pos z _ hlt]
    exact hz _ (by simp)
theorem IK.fresh {W W' : World} (h : ∀ g, g < W.heap.size → W'.heap[g]? = W.heap[g]?) : IK W W' := fun a k x e => by
  have := h a.block (World.block_lt_of_cell? W _ e)
  rw [World.cell?_of_block this]
  exact e
theorem IK.row {W : World} {g t : Nat} {cur : Array Value} (hg : W.heap[g]? = some (.cells cur t (0, 0))) (hn : cur.toList.all nonInt = true) (cs : Array Value) : IK W (W.setRow g cs) := fun a k x e => by
  by_cases h : a.block = g
  · exfalso
    obtain ⟨b, off, spot⟩ := a
    cases h
    unfold World.cell? at e
    rw [hg] at e
    simp only at e
    split at e
    · cases e
    · have := List.all_eq_true.1 hn (.int k x) (List.mem_of_getElem? (i := off) (by simpa using e))
      cases this
  · rw [World.cell?_of_block (setRow_other W g _ cs h)]
    exact e
variable {P : Program}
theorem RowN.run (t ty : TypeId) (i : TypeInfo) (z : Value) (ht : P.underlying t = some (.slice e)) (hi : P.info? e = some i) (hz : i.zero = some z) (hsize : i.size = size) (hzs : z.cells.size = size) (hsz : 0 < size) (hzn : z.cells.toList.all nonInt = true)
    (hown : RowN e size base W v n xs) (a : Addr) (c : Nat) (news : List Value) (hl : news.length = size) (hnews : ∀ j u, news[j]? = some u → W.cell? (a.add j) = some u) (h1 : ∀ u ∈ news, u.oneCell' = true) (hn : news.all nonInt = true)
    (hbytes : (n + 1) * i.bytes ≤ 140737488355328) (hb0 : 0 < i.bytes) (hbase : base ≤ W.heap.size) :
    ∃ v' w', (Builtin.append_ #[t, t] ty #[v, .slice (some a) 1 c]).run P W = .ok v' w' ∧ RowN e size base w' v' (n + 1) (xs ++ news) ∧ W.grownBy w' v.ownBlock ∧ IK W w' := by
  subst hsize
  have hn1 : n + 1 ≤ 140737488355328 := Nat.le_trans (Nat.le_mul_of_pos_right _ hb0) hbytes
  have h63 : n + 1 ≤ maxLen := by simp only [maxLen]; omega
  have hlen : (xs ++ news).length = (n + 1) * i.size := by rw [List.length_append, hown.1, hl, Nat.add_mul, Nat.one_mul]
  have hzl : ∀ m, (Builtin.zeroCells z.cells m).toList.length = m * i.size := fun m => by rw [Array.length_toList, size_zeroCells, hzs]
  rcases hown.2 with ⟨rfl, rfl⟩ | ⟨g, cap, cs, rfl, hbg, hg, hnc, hcm, hcs, hall⟩
  · have hx : xs = [] := List.eq_nil_of_length_eq_zero (by simpa using hown.1)
    subst hx
    have hr := run_append_nil (P := P) W t ty e i z ht hi hz a 1 c news (by rw [hl, Nat.one_mul]) hnews (by decide) (by decide) (by omega)
    refine ⟨_, _, hr, ⟨by simpa using hlen, .inr ⟨W.heap.size, _, (Builtin.zeroCells z.cells (grownCap W 1 0 e - 1)).toList, rfl, hbase, ?_, grownCap_ge W 1 0 e, grownCap_le_maxLen W 1 0 e h63, ?_, ?_⟩⟩, ⟨rfl, rfl, rfl, by simp, fun k hk _ => heap_alloc_old W.drew _ (show _ < W.drew.heap.size from hk)⟩, IK.fresh fun k hk => heap_alloc_old W.drew _ (show _ < W.drew.heap.size from hk)⟩
    · rw [List.nil_append]
      have := heap_alloc_new W.drew (.cells (news.toArray ++ Builtin.zeroCells z.cells (grownCap W 1 0 e - 1)) e (0, 0))
      refine this.trans ?_
      congr 2
      apply Array.ext'
      simp
    · have := grownCap_ge W 1 0 e
      rw [List.nil_append, List.length_append, hzl, hl, Nat.add_comm, ← Nat.succ_mul]
      congr 1
      omega
    · rw [List.nil_append, List.all_append, hn, zeroCells_nonInt hzn, Bool.and_true]
  · by_cases hroom : n + 1 ≤ cap
    · have hsz' : (n + 1) * i.size ≤ cap * i.size := Nat.mul_le_mul_right _ hroom
      have hfit : n * i.size + news.length ≤ (xs ++ cs).toArray.size := by rw [hl, List.size_toArray, hcs, ← Nat.succ_mul]; exact hsz'
      have hr := run_append_room (P := P) W t ty e i ht hi g n cap _ hg a 1 c news (by rw [hl, Nat.one_mul]) hnews h1 hroom hfit
      have e1 : List.take (n * i.size) (xs ++ cs) = xs := by rw [← hown.1]; simp
      have e2 : List.drop (n * i.size + news.length) (xs ++ cs) = cs.drop news.length := by rw [← hown.1, List.drop_append, List.drop_eq_nil_of_le (by omega), List.nil_append]; congr 1; omega
      rw [e1, e2] at hr
      have hcl : cs.length = (cap - n) * i.size := by
        have := hcs
        rw [List.length_append, hown.1] at this
        rw [Nat.sub_mul]
        omega
      have hge : i.size ≤ cs.length := by
        rw [hcl]
        exact Nat.le_mul_of_pos_left _ (by omega)
      rw [List.all_append, Bool.and_eq_true] at hall
      refine ⟨_, _, hr, ⟨hlen, .inr ⟨g, cap, cs.drop news.length, rfl, hbg, setRow_heap W g _ _ e _ hg, hroom, hcm, ?_, ?_⟩⟩, ⟨rfl, rfl, rfl, by simp, fun k _ hk => setRow_other W g k _ (fun e => hk (by simp [Value.ownBlock, e]))⟩, IK.row hg (by rw [List.all_append, hall.1, hall.2]; rfl) _⟩
      · rw [List.length_append, List.length_append, List.length_drop, hl, ← hcs, List.length_append]
        omega
      · rw [List.all_append, List.all_append, hall.1, hn, Bool.true_and, Bool.true_and]
        exact List.all_eq_true.2 fun x hx => List.all_eq_true.1 hall.2 x (List.mem_of_mem_drop hx)
    · have holds : ∀ j u, xs[j]? = some u → W.cell? ((⟨g, 0, none⟩ : Addr).add j) = some u := hown.own.cells (g := g) rfl
      have hr := run_append_grow (P := P) W t ty e i z ht hi hz ⟨g, 0, none⟩ n cap xs hown.1 holds a 1 c news (by rw [hl, Nat.one_mul]) hnews (by omega) (by omega) (growslice_fits (by omega) hbytes)
      have hge := grownCap_ge W (n + 1) cap e
      rw [List.all_append, Bool.and_eq_true] at hall
      refine ⟨_, _, hr, ⟨hlen, .inr ⟨W.heap.size, _, (Builtin.zeroCells z.cells (grownCap W (n + 1) cap e - (n + 1))).toList, rfl, hbase, ?_, hge, grownCap_le_maxLen W (n + 1) cap e h63, ?_, ?_⟩⟩, ⟨rfl, rfl, rfl, by simp, fun k hk _ => heap_alloc_old W.drew _ (show _ < W.drew.heap.size from hk)⟩, IK.fresh fun k hk => heap_alloc_old W.drew _ (show _ < W.drew.heap.size from hk)⟩
      · refine (heap_alloc_new W.drew _).trans ?_
        congr 2
        apply Array.ext'
        simp
      · rw [List.length_append, hlen, hzl, ← Nat.add_mul]
        congr 1
        omega
      · rw [List.all_append, List.all_append, hall.1, hn, zeroCells_nonInt hzn]
        rfl
end
section
variable {P : Program} {ops : Array Oper} {rest : List Oper} {o : Oper} {a : Act} {Q : Exit → Act → World → Prop} {w0 W : World} {e size base n : Nat} {v : Value} {xs : List Value}
theorem RowN.append (hgd : o.guard = none) (s x : Operand) (t : TypeId) (z : Value) (bytes : Nat) (ho : o.op = .call { callee := .builtin .append, args := #[s, x], argTypes := #[t, t] })
    (ht : P.underlying t = some (.slice e)) (hinfo : (P.info? e).map (fun i => (i.zero, i.size, i.bytes)) = some (some z, size, bytes)) (hz : z.cells.size = size) (hzn : z.cells.toList.all nonInt = true) (hs0 : 0 < size) (hb0 : 0 < bytes)
    (ys : List Value) (hs : a.eval s = v) (hx : a.eval x = .slice (some ⟨W.heap.size, 0, none⟩) 1 1) (hys : ys.length = size) (h1 : ∀ u ∈ ys, u.oneCell' = true) (hn : ys.all nonInt = true)
    (HO : RowN e size base W v n xs) (HB : Below base w0 W) (hbase : base ≤ W.heap.size) (hl : (n + 1) * bytes ≤ 140737488355328)
    (h : ∀ v1 w1, RowN e size base w1 v1 (n + 1) (xs ++ ys) → Below base w0 w1 → IK W w1 → W.grownBy w1 v.ownBlock → wpList P ops Q rest (a.put o.dst v1) w1) :
    wpList P ops Q (o :: rest) a (W.alloc (.cells ys.toArray e)) := by
  obtain ⟨i0, hi, hzz⟩ := Option.map_eq_some_iff.1 hinfo
  simp only [Prod.mk.injEq] at hzz
  obtain ⟨hz0, hz1, hz2⟩ := hzz
  subst hz2
  have HO' : RowN e size base (W.alloc (.cells ys.toArray e)) v n xs := HO.below (below_alloc (Below.refl _ _) _)
  obtain ⟨v1, w1, hr, h2, h3, h4⟩ := RowN.run (W := W.alloc (.cells ys.toArray e)) t o.type i0 z ht hi hz0 hz1 hz hs0 hzn HO' ⟨W.heap.size, 0, none⟩ 1 ys hys
    (by simpa using World.news_of_block (cs := ys.toArray) (t := e) (fr := (0, 0)) (heap_alloc_new W (.cells ys.toArray e))) h1 hn hl hb0 (by simp; omega)
  refine wpList_plain hgd fun K hK => ?_
  unfold Oper.wp execOp
  simp only [ho, resolve, invoke, builtin, Sem.run_bind, Sem.run_pure, Result.andThen_ok, List.map_toArray, List.map_cons, List.map_nil, hs, hx, hr]
  exact hK _ _ (h v1 w1 h2 ((HB.alloc hbase _).grown h3 (by simp; omega) HO.ge) ((IK.alloc W _).trans h4) (World.grownBy.trans (World.grownBy_alloc W _ _) h3))
end
end Go.Proofs.YtfmcgammhfdfnaaGreatDoor.PRatio
namespace Go.Proofs.YtfmcgammhfdfnaaGreatDoor.PRatio
open Go.RowKit Go.Proofs.YtfmcgammhfdfnaaGreatDoorW.PrintWords Go.Proofs.YtfmcgammhfdfnaaGreatDoorW.PrintLast Go.Proofs.YtfmcgammhfdfnaaGreatDoorW.PrintMore
set_option linter.unusedVariables false
set_option linter.unusedSimpArgs false
set_option maxHeartbeats 8000000
set_option maxRecDepth 100000
def infS : ByteArray := ⟨#[105, 110, 102]⟩
def ev (s : ByteArray) : Option (Option Rat) := if s = infS then some none else (rv s).map some
def evs : List ByteArray → Option (List (Option Rat))
  | [] => some []
  | s :: r => match ev s, evs r with
    | some x, some xs => some (x :: xs)
    | _, _ => none
theorem evs_snoc : ∀ (l : List ByteArray) (s : ByteArray), evs (l ++ [s]) = match evs l, ev s with | some xs, some x => some (xs ++ [x]) | _, _ => none
  | [], s => by rw [List.nil_append, evs, evs, evs]; cases ev s <;> rfl
  | a :: l, s => by
    rw [List.cons_append, evs, evs_snoc l s, evs]
    cases ev a <;> cases evs l <;> cases ev s <;> rfl
theorem evs_none : ∀ (l r : List ByteArray) (s : ByteArray), ev s = none → evs (l ++ s :: r) = none
  | [], r, s, h => by rw [List.nil_append, evs, h]
  | a :: l, r, s, h => by rw [List.cons_append, evs, evs_none l r s h]; cases ev a <;> rfl
structure RawE where
  b : Bool
  A : Option Addr
  n : Nat
  c : Nat
  b' : Bool
  A' : Option Addr
  n' : Nat
  c' : Nat
  i : Bool
def RawE.cells (r : RawE) : List Value := [.bool r.b, .slice r.A r.n r.c, .bool r.b', .slice r.A' r.n' r.c', .bool r.i]
def EndOk (W : World) (r : RawE) : Option Rat → Prop
  | none => r.i = true ∧ Wh W r.b (.slice r.A r.n r.c) 0 ∧ Wh W r.b' (.slice r.A' r.n' r.c') 0
  | some q => r.i = false ∧ Wh W r.b (.slice r.A r.n r.c) q.num ∧ Wh W r.b' (.slice r.A' r.n' r.c') q.den
def EndsOk (W : World) : List RawE → List (Option Rat) → Prop
  | [], [] => True
  | r :: rs, x :: xs => EndOk W r x ∧ EndsOk W rs xs
  | _, _ => False
theorem EndOk.ik {W W' : World} {r : RawE} {x : Option Rat} (h : EndOk W r x) (k : IK W W') : EndOk W' r x := by
  cases x with
  | none => exact ⟨h.1, h.2.1.ik k, h.2.2.ik k⟩
  | some q => exact ⟨h.1, h.2.1.ik k, h.2.2.ik k⟩
theorem EndsOk.ik {W W' : World} (k : IK W W') : ∀ {rs : List RawE} {xs : List (Option Rat)}, EndsOk W rs xs → EndsOk W' rs xs
  | [], [], h => h
  | r :: rs, x :: xs, h => ⟨h.1.ik k, EndsOk.ik k h.2⟩
  | [], _ :: _, h => h.elim
  | _ :: _, [], h => h.elim
theorem EndsOk.snoc {W : World} {r : RawE} {x : Option Rat} (hx : EndOk W r x) : ∀ {rs : List RawE} {xs : List (Option Rat)}, EndsOk W rs xs → EndsOk W (rs ++ [r]) (xs ++ [x])
  | [], [], h => ⟨hx, trivial⟩
  | a :: rs, b :: xs, h => ⟨h.1, EndsOk.snoc hx h.2⟩
  | [], _ :: _, h => h.elim
  | _ :: _, [], h => h.elim
def Es (rs : List RawE) : List Value := rs.flatMap RawE.cells
theorem Es_snoc (rs : List RawE) (r : RawE) : Es (rs ++ [r]) = Es rs ++ r.cells := by simp [Es]
def RdsInv (ls : List ByteArray) (x : Int) (kq : Nat) (xs : List (Option Rat)) : Prop := 0 ≤ x ∧ x ≤ (ls.length : Int) ∧ (kq : Int) = (ls.length : Int) + 1 - x ∧ evs (ls.take x.toNat) = some xs
def RE (base : Nat) (o : Option (List (Option Rat))) (e : Ending) (w' : World) : Prop := match o with
  | none => e = .returned (.tuple #[.slice none 0 0, .bool false])
  | some xs => ∃ v rs, e = .returned (.tuple #[v, .bool true]) ∧ RowN 108 5 base w' v xs.length (Es rs) ∧ EndsOk w' rs xs
theorem rd_facts {ls : List ByteArray} {s : ByteArray} {x : Int} (HS : ∀ s ∈ ls, s.size ≤ 9000000000000) (x0 : 0 ≤ x) (hx : x < (ls.length : Int)) (hs : s = rdOf ByteArray.empty ls x) : s.size ≤ 9000000000000 ∧ ls.take (x.toNat + 1) = ls.take x.toNat ++ [s] ∧ ∃ r, ls = ls.take x.toNat ++ s :: r := by
  have hl : x.toNat < ls.length := by omega
  have e : s = ls[x.toNat] := by rw [hs]; simp [rdOf, hl]
  subst e
  exact ⟨HS _ (List.getElem_mem hl), by rw [List.take_succ_eq_append_getElem hl], ls.drop (x.toNat + 1), by rw [← List.drop_eq_getElem_cons hl, List.take_append_drop]⟩
theorem evs_len : ∀ {l : List ByteArray} {xs : List (Option Rat)}, evs l = some xs → xs.length = l.length
  | [], xs, h => by cases h; rfl
  | a :: l, xs, h => by
    rw [evs] at h
    split at h
    next x ys h1 h2 => cases h; rw [List.length_cons, List.length_cons, evs_len h2]
    · cases h
theorem RdsInv.next {ls : List ByteArray} {x : Int} {kq : Nat} {xs : List (Option Rat)} {s : ByteArray} {e : Option Rat} (h : RdsInv ls x kq xs) (hx : x < (ls.length : Int)) (hm : ls.length ≤ 1000000) (ht : ls.take (x.toNat + 1) = ls.take x.toNat ++ [s]) (he : ev s = some e) :
    kq - 1 < kq ∧ RdsInv ls (wrap64 (x + 1)) (kq - 1) (xs ++ [e]) ∧ (wrap64 (x + 1)).toNat = x.toNat + 1 := by
  obtain ⟨h1, h2, h3, h4⟩ := h
  have hw : wrap64 (x + 1) = x + 1 := wrap_id (by omega) (by omega)
  rw [hw]
  refine ⟨by omega, ⟨by omega, by omega, by omega, ?_⟩, by omega⟩
  rw [show (x + 1).toNat = x.toNat + 1 by omega, ht, evs_snoc, h4, he]
theorem cells_one (r : RawE) : ∀ u ∈ r.cells, u.oneCell' = true := by
  intro u hu
  simp only [RawE.cells, List.mem_cons, List.not_mem_nil, or_false] at hu
  rcases hu with rfl | rfl | rfl | rfl | rfl <;> rfl
theorem reads_calls (w00 : World) {A : Option Addr} {c : Nat} {ls : List ByteArray} (h : Kd.C Kd.string w00 A ls.length ls) (hm : ls.length ≤ 1000000) (hs : ∀ s ∈ ls, s.size ≤ 9000000000000) : Calls Tryz.prog 110 #[.slice A ls.length c] w00 fun e w' => Below w00.heap.size w00 w' ∧ RE w00.heap.size (evs ls) e w' := by
  have D := Aside0.mk h
  have HM := Aside0.mk hm
  have HS := Aside0.mk hs
  have HB := Aside0.mk (Below.refl w00.heap.size w00)
  have HO := Aside0.mk (RowN.nil 108 5 w00.heap.size w00)
  clear h hm hs
  go_enter Tryz.func110, Tryz.ntmps110
  go_wp2
  go_loopg [4, 11] (ls.length + 1) (fun kq v4 v11 w' => ∃ (x : Int) (rs : List RawE) (xs : List (Option Rat)), v11 = .int .i64 x ∧ Aside0 (RdsInv ls x kq xs) ∧ Aside0 (RowN 108 5 w00.heap.size w' v4 x.toNat (Es rs)) ∧ Aside0 (EndsOk w' rs xs) ∧ Aside0 (Below w00.heap.size w00 w'))
  case atStart => exact ⟨0, [], [], rfl, ⟨by simp [RdsInv, evs]⟩, HO, ⟨trivial⟩, HB⟩
  case round =>
    clear HO HB
    obtain ⟨x, rs, xs, rfl, INV, HO, EO, HB⟩ := hrel
    have x0 : 0 ≤ x := INV.out.1
    by_cases hx : x < (ls.length : Int)
    · have hxb : decide (x < (ls.length : Int)) = true := decide_eq_true hx
      obtain ⟨ad, eA, cA⟩ := Kd.at_string (Kd.C_below D.out HB.out) x x0 hx
      cases eA
      obtain ⟨s, hs⟩ : ∃ s, s = rdOf ByteArray.empty ls x := ⟨_, rfl⟩
      rw [← hs] at cA
      have HSS := Aside0.mk (show s.size ≤ 9000000000000 ∧ ls.take (x.toNat + 1) = ls.take x.toNat ++ [s] ∧ ∃ r, ls = ls.take x.toNat ++ s :: r from rd_facts HS.out x0 hx hs)
      have HX := Aside0.mk hx
      have hx1 : (0 ≤ x) = True := eq_true x0
      have hx2 : (x < (ls.length : Int)) = True := eq_true hx
      clear hx hs
      by_cases hinf : s = infS
      · subst hinf
        have hi : (infS.toList == [105, 110, 102]) = true := by rw [ByteArray.toList_eq]; rfl
        have hn := INV.out.next HX.out HM.out HSS.out.2.1 (e := none) (by rw [ev, if_pos rfl])
        replace hn := Aside0.mk hn
        go_wp2_with (first | (at_builtin; refine RowN.append (w0 := w00) (base := w00.heap.size) (n := x.toNat) (xs := Es rs) (by rfl) _ _ 104 (.agg #[.bool false, .slice none 0 0, .bool false, .slice none 0 0, .bool false]) 72 (by rfl) Tryz.underlying104 info108 rfl rfl (by decide) (by decide) (RawE.cells ⟨false, none, 0, 0, false, none, 0, 0, true⟩) (by rfl) (by rfl) rfl (cells_one _) rfl HO.out HB.out HB.out.size (by have := HM.out; have := HX.out; omega) ?_; intro v1 w1 ho hb hik hg; clear hg))
        go_roundg (gk - 1)
        case measure => exact hn.out.1
        case rel => exact ⟨_, rs ++ [⟨false, none, 0, 0, false, none, 0, 0, true⟩], _, rfl, ⟨hn.out.2.1⟩, ⟨by rw [hn.out.2.2, Es_snoc]; exact ho⟩, ⟨EndsOk.snoc (r := ⟨false, none, 0, 0, false, none, 0, 0, true⟩) (x := none) ⟨rfl, Wh.zero _, Wh.zero _⟩ (EO.out.ik hik)⟩, ⟨hb⟩⟩
      · have hi : (s.toList == [105, 110, 102]) = false := by
          refine Bool.eq_false_iff.2 fun h => hinf ?_
          have := beq_iff_eq.1 h
          rw [ByteArray.toList_eq] at this
          obtain ⟨⟨l⟩⟩ := s
          simp at this
          rw [this]
          rfl
        have HI := Aside0.mk hinf
        clear hinf
        have E := Env.start wr
        cases hr : rv s with
        | none =>
          have HR := Aside0.mk hr
          clear hr
          go_wp2_with (first | ((with_reducible first | refine gate_box (by rfl) ?_ | refine gate_alloc (by rfl) ?_); refine bx_ E ?_; clear E; intro gb wb E; have hc_ := E.cls; (repeat (obtain ⟨c_, f_, hc_⟩ := hc_)); clear hc_) | (go_at_call 104; refine env_call E (rr_none _ HR.out HSS.out.1) ?_; clear E; rintro e wc E ⟨zr, zr2, br, Ar, nr, cr, br2, Ar2, nr2, cr2, rfl, hw_, hw2_⟩; replace E := (E.wh hw_).wh hw2_; clear hw_ hw2_; have hc_ := E.cls; (repeat (obtain ⟨c_, f_, hc_⟩ := hc_)); clear hc_) | ((with_reducible refine gate_stored (t := 84) (by rfl) ?_); refine st_ (fun ws hs_ => ?_); replace E := Env.pt4 hs_ E; clear hs_; have hc_ := E.cls; (repeat (obtain ⟨c_, f_, hc_⟩ := hc_)); clear hc_))
          refine bodyPost_ret (results_list (rs := [.tmp _, .tmp _]) rfl (by simp) (.tmp (.tmp .nil))) rfl ?_
          obtain ⟨r, hl⟩ := HSS.out.2.2
          rw [hl, evs_none _ _ _ (by rw [ev, if_neg HI.out, HR.out]; rfl)]
          exact ⟨HB.out.trans (E.below.mono HB.out.size), rfl⟩
        | some q =>
          have HR := Aside0.mk hr
          have hn := INV.out.next HX.out HM.out HSS.out.2.1 (e := some q) (by rw [ev, if_neg HI.out, hr]; rfl)
          replace hn := Aside0.mk hn
          clear hr
          go_wp2_with (first | ((with_reducible first | refine gate_box (by rfl) ?_ | refine gate_alloc (by rfl) ?_); refine bx_ E ?_; clear E; intro gb wb E; have hc_ := E.cls; (repeat (obtain ⟨c_, f_, hc_⟩ := hc_)); clear hc_) | (go_at_call 104; refine env_call E (rr_some _ HR.out HSS.out.1) ?_; clear E; rintro e wc E ⟨br, Ar, nr, cr, br2, Ar2, nr2, cr2, rfl, hw_, hw2_⟩; replace E := (E.wh hw_).wh hw2_; clear hw_ hw2_; have hc_ := E.cls; (repeat (obtain ⟨c_, f_, hc_⟩ := hc_)); clear hc_) | ((with_reducible refine gate_stored (t := 84) (by rfl) ?_); refine st_ (fun ws hs_ => ?_); replace E := Env.pt4 hs_ E; clear hs_; have hc_ := E.cls; (repeat (obtain ⟨c_, f_, hc_⟩ := hc_)); clear hc_) | (at_builtin; refine RowN.append (w0 := w00) (base := w00.heap.size) (n := x.toNat) (xs := Es rs) (by rfl) _ _ 104 (.agg #[.bool false, .slice none 0 0, .bool false, .slice none 0 0, .bool false]) 72 (by rfl) Tryz.underlying104 info108 rfl rfl (by decide) (by decide) (RawE.cells ⟨br, Ar, nr, cr, br2, Ar2, nr2, cr2, false⟩) (by rfl) (by rfl) rfl (cells_one _) rfl (HO.out.below E.below) (HB.out.trans (E.below.mono HB.out.size)) (Nat.le_trans HB.out.size E.below.size) (by have := HM.out; have := HX.out; omega) ?_; intro v1 w1 ho hb hik hg; clear hg))
          go_roundg (gk - 1)
          case measure => exact hn.out.1
          case rel => exact ⟨_, rs ++ [⟨br, Ar, nr, cr, br2, Ar2, nr2, cr2, false⟩], _, rfl, ⟨hn.out.2.1⟩, ⟨by rw [hn.out.2.2, Es_snoc]; exact ho⟩, ⟨EndsOk.snoc (r := ⟨br, Ar, nr, cr, br2, Ar2, nr2, cr2, false⟩) (x := some q) ⟨rfl, E.getW.ik hik, E.getW.ik hik⟩ ((EO.out.ik (IK.below E.below)).ik hik)⟩, ⟨hb⟩⟩
    · have hxb : decide (x < (ls.length : Int)) = false := decide_eq_false hx
      have HX := Aside0.mk hx
      have hx2 : (x < (ls.length : Int)) = False := eq_false hx
      clear hx
      go_wp2
      refine bodyPost_ret (results_list (rs := [.tmp _, .tmp _]) rfl (by simp) (.tmp (.tmp .nil))) rfl ?_
      have h3 := INV.out
      have e : x.toNat = ls.length := by have := h3.2.1; have := HX.out; omega
      have hx : evs ls = some xs := by have := h3.2.2.2; rwa [e, List.take_length] at this
      have hl : xs.length = ls.length := evs_len hx
      rw [hx]
      refine ⟨HB.out, _, rs, rfl, ?_, EO.out⟩
      have := HO.out
      rwa [e, ← hl] at this
end Go.Proofs.YtfmcgammhfdfnaaGreatDoor.PRatio
namespace Go.Proofs.YtfmcgammhfdfnaaGreatDoor.PRatio
open Go.RowKit Go.Proofs.YtfmcgammhfdfnaaGreatDoorW.PrintWords Go.Proofs.YtfmcgammhfdfnaaGreatDoorW.PrintLast Go.Proofs.YtfmcgammhfdfnaaGreatDoorW.PrintMore
set_option linter.unusedVariables false
set_option linter.unusedSimpArgs false
set_option maxHeartbeats 8000000
set_option maxRecDepth 100000
def enN (x : Option Rat) : Int := x.elim 0 Rat.num
def enD (x : Option Rat) : Int := x.elim 0 fun q => q.den
def enI (x : Option Rat) : Bool := x.isNone
theorem EndOk.n {W : World} {r : RawE} {x : Option Rat} (h : EndOk W r x) : Wh W r.b (.slice r.A r.n r.c) (enN x) := by
  cases x with
  | none => exact h.2.1
  | some q => exact h.2.1
theorem EndOk.d {W : World} {r : RawE} {x : Option Rat} (h : EndOk W r x) : Wh W r.b' (.slice r.A' r.n' r.c') (enD x) := by
  cases x with
  | none => exact h.2.2
  | some q => exact h.2.2
theorem EndOk.i {W : World} {r : RawE} {x : Option Rat} (h : EndOk W r x) : r.i = enI x := by
  cases x with
  | none => exact h.1
  | some q => exact h.1
theorem two_strings (W : World) (a b : ByteArray) : Kd.C Kd.string (W.alloc (.cells #[.string a, .string b] 23 (0, 0))) (some ⟨W.heap.size, 0, none⟩) 2 [a, b] := by
  refine ⟨rfl, by decide, fun _ => ⟨_, rfl, fun j p hp => ⟨[.string p], rfl, rfl, fun i u hu => ?_⟩⟩⟩
  have hi : i = 0 := by
    rcases i with _ | i
    · rfl
    · simp at hu
  subst hi
  have hu' : u = .string p := by simpa using hu.symm
  subst hu'
  have := blk_cell (blk_new W (.cells #[.string a, .string b] 23 (0, 0))) j
  simp only [Addr.add_lit, Nat.zero_add, Nat.add_zero]
  rw [show j * Kd.string.sz = j from Nat.mul_one j, this]
  rcases j with _ | _ | j
  · simpa using hp
  · simpa using hp
  · simp at hp
def ends2 (a b : ByteArray) : Option (Option Rat × Option Rat) := match ev a, ev b with
  | some x, some y => some (x, y)
  | _, _ => none
theorem evs_two (a b : ByteArray) : evs [a, b] = (ends2 a b).map fun p => [p.1, p.2] := by
  unfold evs evs ends2
  cases ev a <;> cases ev b <;> rfl
section
variable {w W : World} {rows : List (World → Prop)} {a b : ByteArray} {post : Ending → World → Prop}
theorem reads_none (E : Env w W rows []) (ha : a.size ≤ 9000000000000) (hb : b.size ≤ 9000000000000) (hx : ends2 a b = none) (h : ∀ w', Env w w' rows [] → post (.returned (.tuple #[.slice none 0 0, .bool false])) w') :
    Calls Tryz.prog 110 #[.slice (some ⟨W.heap.size, 0, none⟩) 2 2] (W.alloc (.cells #[.string a, .string b] 23 (0, 0))) post := by
  refine (reads_calls (W.alloc (.cells #[.string a, .string b] 23 (0, 0))) (two_strings W a b) (by simp) (by simp [ha, hb])).mono ?_
  rintro e w' ⟨hb', hr⟩
  rw [evs_two, hx] at hr
  obtain rfl := hr
  exact h w' ((E.next (below_alloc (Below.refl _ _) _)).next hb')
theorem reads_some (E : Env w W rows []) (ha : a.size ≤ 9000000000000) (hb : b.size ≤ 9000000000000) {x y : Option Rat} (hx : ends2 a b = some (x, y))
    (h : ∀ g cap b1 A1 x1 c1 b2 A2 x2 c2 b3 A3 x3 c3 b4 A4 x4 c4 cs w', Env w w' ((fun W => Wh W b1 (.slice A1 x1 c1) (enN x)) :: (fun W => Wh W b2 (.slice A2 x2 c2) (enD x)) :: (fun W => Wh W b3 (.slice A3 x3 c3) (enN y)) :: (fun W => Wh W b4 (.slice A4 x4 c4) (enD y)) :: rows)
      [(g, .bool b1 :: .slice A1 x1 c1 :: .bool b2 :: .slice A2 x2 c2 :: .bool (enI x) :: .bool b3 :: .slice A3 x3 c3 :: .bool b4 :: .slice A4 x4 c4 :: .bool (enI y) :: cs, 108)] → post (.returned (.tuple #[.slice (some ⟨g, 0, none⟩) 2 cap, .bool true])) w') :
    Calls Tryz.prog 110 #[.slice (some ⟨W.heap.size, 0, none⟩) 2 2] (W.alloc (.cells #[.string a, .string b] 23 (0, 0))) post := by
  refine (reads_calls (W.alloc (.cells #[.string a, .string b] 23 (0, 0))) (two_strings W a b) (by simp) (by simp [ha, hb])).mono ?_
  rintro e w' ⟨hb', hr⟩
  rw [evs_two, hx] at hr
  obtain ⟨v, rs, rfl, ho, he⟩ := hr
  obtain ⟨r1, r2, rfl⟩ : ∃ r1 r2, rs = [r1, r2] := by
    rcases rs with _ | ⟨r1, _ | ⟨r2, _ | ⟨r3, rs⟩⟩⟩
    · exact he.elim
    · exact he.2.elim
    · exact ⟨r1, r2, rfl⟩
    · exact he.2.2.elim
  have h1 : EndOk w' r1 x := he.1
  have h2 : EndOk w' r2 y := he.2.1
  rcases ho.2 with ⟨_, h0⟩ | ⟨g, cap, cs, rfl, hg, hh, _, _, _, hall⟩
  · cases h0
  have E' := (((((E.next (below_alloc (Below.refl _ _) _)).next hb').wh h2.d).wh h2.n).wh h1.d).wh h1.n
  have hcs : Es [r1, r2] ++ cs = .bool r1.b :: .slice r1.A r1.n r1.c :: .bool r1.b' :: .slice r1.A' r1.n' r1.c' :: .bool (enI x) :: .bool r2.b :: .slice r2.A r2.n r2.c :: .bool r2.b' :: .slice r2.A' r2.n' r2.c' :: .bool (enI y) :: cs := by
    rw [← h1.i, ← h2.i]
    rfl
  rw [hcs] at hh hall
  refine h g cap r1.b r1.A r1.n r1.c r1.b' r1.A' r1.n' r1.c' r2.b r2.A r2.n r2.c r2.b' r2.A' r2.n' r2.c' cs w' ⟨E'.below, E'.rows, ⟨⟨?_, hh, hall, fun b hb => by cases hb⟩, trivial⟩⟩
  have := E.below.size
  have h3 : W.heap.size ≤ (W.alloc (.cells #[.string a, .string b] 23 (0, 0))).heap.size := (below_alloc (Below.refl W.heap.size W) (.cells #[.string a, .string b] 23 (0, 0))).size
  omega
end
theorem ev_ln {s : ByteArray} {x : Option Rat} (h : ev s = some x) : Ln (enN x) 112 ∧ Ln (enD x) 112 := by
  unfold ev at h
  split at h
  · cases h
    exact ⟨Nat.le_trans (dg_abs_len (k := 1) (by decide)) (by decide), Nat.le_trans (dg_abs_len (k := 1) (by decide)) (by decide)⟩
  · obtain ⟨q, hq, rfl⟩ := Option.map_eq_some_iff.1 h
    exact rv_ln (rv_some hq).2
theorem ends2_some {a b : ByteArray} {x y : Option Rat} (h : ends2 a b = some (x, y)) : ev a = some x ∧ ev b = some y := by
  unfold ends2 at h
  split at h
  next x' y' h1 h2 => cases h; exact ⟨h1, h2⟩
  · cases h
def ce (x y : Option Rat) : Int := ecmp (enI x) (enI y) (enN x * dn (enD y) - enN y * dn (enD x))
theorem cmpe_calls (W : World) (a b : ByteArray) (hsa : a.size ≤ 9000000000000) (hsb : b.size ≤ 9000000000000) : Calls Tryz.prog 29 #[.string a, .string b] W fun e w' => Below W.heap.size W w' ∧ e = .returned (.int .i64 ((ends2 a b).elim 0 fun p => ce p.1 p.2)) := by
  have E := Env.start W
  have HSA := Aside0.mk hsa
  have HSB := Aside0.mk hsb
  cases h : ends2 a b with
  | none =>
    have HX := Aside0.mk h
    clear h hsa hsb
    go_enter Tryz.func29, Tryz.ntmps29
    go_wp2_with (first | (go_at_call 110; refine reads_none E HSA.out HSB.out HX.out ?_; clear E; rintro wc E))
    go_ret
    exact ⟨E.below, rfl⟩
  | some p =>
    obtain ⟨x, y⟩ := p
    have HX := Aside0.mk h
    have LX := Aside0.mk (ev_ln (ends2_some h).1)
    have LY := Aside0.mk (ev_ln (ends2_some h).2)
    clear h hsa hsb
    go_enter Tryz.func29, Tryz.ntmps29
    go_wp2_with (first | (go_at_call 110; refine reads_some E HSA.out HSB.out HX.out ?_; clear E; rintro g cap b1 A1 x1 c1 b2 A2 x2 c2 b3 A3 x3 c3 b4 A4 x4 c4 cs wc E; have hc_ := E.cls; (repeat (obtain ⟨c_, f_, hc_⟩ := hc_)); clear hc_) | (refine start_ (id := 4) (n := 8) (S := fun w' => Cls w' _) (ds := []) (bz 8 0) (by kernel_rfl) rfl rfl E.draw.cls (fun hHeld => ?_); replace E := E.draw; refine pu_ 0 (some 16) (bz 8 1) ?_; refine pu_ 1 (some 17) (bz 8 3) ?_; refine pu_ 3 (some 19) (bz 8 11) ?_; refine pu_ 4 (some 20) (bz 8 27) ?_; refine ta_ 2 (some 18) (bz 8 31) hHeld ?_; refine ta_ 5 (some 21) (bz 8 63) hHeld ?_; refine on_ 6 (some 22) (bz 8 127) (fun K hK => ?_); refine gs_ Tryz.func111 ?_; refine env_call E (ecmp_calls E.getW E.getW E.getW E.getW LX.out.1 LX.out.2 LY.out.1 LY.out.2 (by omega) (by omega)) ?_; clear E; rintro e wc E rfl; refine ⟨_, rfl, ?_⟩; refine hK.out _ _ E.cls (fun hHeld => ?_); clear hK K; refine nm_ (some 22) ?_; refine pu_ 7 (some 4) (bz 8 255) ?_; refine done_ (by kernel_rfl) ?_; all_goals (have hc_ := E.cls; (repeat (obtain ⟨c_, f_, hc_⟩ := hc_)); clear hc_)))
    go_ret
    exact ⟨E.below, rfl⟩
theorem maxe_calls (W : World) (a b : ByteArray) (hsa : a.size ≤ 9000000000000) (hsb : b.size ≤ 9000000000000) : Calls Tryz.prog 33 #[.string a, .string b] W fun e w' => Below W.heap.size W w' ∧ e = .returned (.string ((ends2 a b).elim ⟨#[]⟩ fun p => if ce p.1 p.2 < 0 then b else a)) := by
  have E := Env.start W
  have HSA := Aside0.mk hsa
  have HSB := Aside0.mk hsb
  cases h : ends2 a b with
  | none =>
    have HX := Aside0.mk h
    clear h hsa hsb
    go_enter Tryz.func33, Tryz.ntmps33
    go_wp2_with (first | (go_at_call 110; refine reads_none E HSA.out HSB.out HX.out ?_; clear E; rintro wc E))
    go_ret
    exact ⟨E.below, rfl⟩
  | some p =>
    obtain ⟨x, y⟩ := p
    have HX := Aside0.mk h
    have LX := Aside0.mk (ev_ln (ends2_some h).1)
    have LY := Aside0.mk (ev_ln (ends2_some h).2)
    clear h hsa hsb
    by_cases hc : ce x y < 0
    · have hcb : decide (ecmp (enI x) (enI y) (enN x * dn (enD y) - enN y * dn (enD x)) < 0) = true := decide_eq_true hc
      simp only [Option.elim, if_pos hc]
      clear hc
      go_enter Tryz.func33, Tryz.ntmps33
      go_wp2_with (first | (go_at_call 110; refine reads_some E HSA.out HSB.out HX.out ?_; clear E; rintro g cap b1 A1 x1 c1 b2 A2 x2 c2 b3 A3 x3 c3 b4 A4 x4 c4 cs wc E; have hc_ := E.cls; (repeat (obtain ⟨c_, f_, hc_⟩ := hc_)); clear hc_) | (refine start_ (id := 4) (n := 9) (S := fun w' => Cls w' _) (ds := []) (bz 9 0) (by kernel_rfl) rfl rfl E.draw.cls (fun hHeld => ?_); replace E := E.draw; refine pu_ 0 (some 18) (bz 9 1) ?_; refine pu_ 1 (some 19) (bz 9 3) ?_; refine pu_ 3 (some 21) (bz 9 11) ?_; refine pu_ 4 (some 22) (bz 9 27) ?_; refine ta_ 2 (some 20) (bz 9 31) hHeld ?_; refine ta_ 5 (some 23) (bz 9 63) hHeld ?_; refine on_ 6 (some 24) (bz 9 127) (fun K hK => ?_); refine gs_ Tryz.func111 ?_; refine env_call E (ecmp_calls E.getW E.getW E.getW E.getW LX.out.1 LX.out.2 LY.out.1 LY.out.2 (by omega) (by omega)) ?_; clear E; rintro e wc E rfl; refine ⟨_, rfl, ?_⟩; refine hK.out _ _ E.cls (fun hHeld => ?_); clear hK K; refine nm_ (some 24) ?_; refine pu_ 7 (some 25) (bz 9 255) ?_; refine pu_ 8 (some 17) (bz 9 511) ?_; refine done_ (by kernel_rfl) ?_; all_goals (have hc_ := E.cls; (repeat (obtain ⟨c_, f_, hc_⟩ := hc_)); clear hc_)))
      go_ret
      exact ⟨E.below, rfl⟩
    · have hcb : decide (ecmp (enI x) (enI y) (enN x * dn (enD y) - enN y * dn (enD x)) < 0) = false := decide_eq_false hc
      simp only [Option.elim, if_neg hc]
      clear hc
      go_enter Tryz.func33, Tryz.ntmps33
      go_wp2_with (first | (go_at_call 110; refine reads_some E HSA.out HSB.out HX.out ?_; clear E; rintro g cap b1 A1 x1 c1 b2 A2 x2 c2 b3 A3 x3 c3 b4 A4 x4 c4 cs wc E; have hc_ := E.cls; (repeat (obtain ⟨c_, f_, hc_⟩ := hc_)); clear hc_) | (refine start_ (id := 4) (n := 9) (S := fun w' => Cls w' _) (ds := []) (bz 9 0) (by kernel_rfl) rfl rfl E.draw.cls (fun hHeld => ?_); replace E := E.draw; refine pu_ 0 (some 18) (bz 9 1) ?_; refine pu_ 1 (some 19) (bz 9 3) ?_; refine pu_ 3 (some 21) (bz 9 11) ?_; refine pu_ 4 (some 22) (bz 9 27) ?_; refine ta_ 2 (some 20) (bz 9 31) hHeld ?_; refine ta_ 5 (some 23) (bz 9 63) hHeld ?_; refine on_ 6 (some 24) (bz 9 127) (fun K hK => ?_); refine gs_ Tryz.func111 ?_; refine env_call E (ecmp_calls E.getW E.getW E.getW E.getW LX.out.1 LX.out.2 LY.out.1 LY.out.2 (by omega) (by omega)) ?_; clear E; rintro e wc E rfl; refine ⟨_, rfl, ?_⟩; refine hK.out _ _ E.cls (fun hHeld => ?_); clear hK K; refine nm_ (some 24) ?_; refine pu_ 7 (some 25) (bz 9 255) ?_; refine pu_ 8 (some 17) (bz 9 511) ?_; refine done_ (by kernel_rfl) ?_; all_goals (have hc_ := E.cls; (repeat (obtain ⟨c_, f_, hc_⟩ := hc_)); clear hc_)))
      go_ret
      exact ⟨E.below, rfl⟩
section
variable {W : World} {b1 b2 b3 b4 : Bool} {A1 A2 A3 A4 : Option Addr} {x1 x2 x3 x4 c1 c2 c3 c4 : Nat} {x y : Option Rat}
end
end Go.Proofs.YtfmcgammhfdfnaaGreatDoor.PRatio
namespace Go.Proofs.YtfmcgammhfdfnaaGreatDoor.PRatio
open Go.RowKit Go.Proofs.YtfmcgammhfdfnaaGreatDoorW.PrintWords
set_option linter.unusedVariables false
set_option linter.unusedSimpArgs false
def In (a : Rat) (b : Option Rat) (r : Rat) : Prop := a ≤ r ∧ ∀ x, b = some x → r ≤ x
def SP (a : Rat) (b : Option Rat) (q : Rat) : Prop := In a b q ∧ ∀ r, In a b r → q.den ≤ r.den ∧ q.num.natAbs ≤ r.num.natAbs
theorem rnd_of {n d : Int} (hd : 0 < d) (hc : Int.gcd n d = 1) : (Rat.divInt n d).num = n ∧ ((Rat.divInt n d).den : Int) = d := by
  rw [Rat.num_divInt, Rat.den_divInt, if_neg (by omega), Int.gcd_comm d n, hc, Int.sign_eq_one_of_pos hd]
  simp
  omega
theorem rnd_add (r : Rat) (f : Int) : (r + f).num = r.num + f * r.den ∧ (r + f).den = r.den := by
  have hd := r.den_nz
  have hc : Int.gcd (r.num + f * r.den) r.den = 1 := by
    have := r.reduced
    rw [Int.gcd_add_mul_right_left]
    exact this
  have h1 : r + f = Rat.divInt (r.num + f * r.den) r.den := by
    have : (f : Rat) = Rat.divInt f 1 := by
      conv => lhs; rw [← Rat.num_divInt_den (f : Rat)]
      rfl
    conv => lhs; rw [← Rat.num_divInt_den r, this]
    rw [Rat.divInt_add_divInt _ _ (by omega) (by omega)]
    simp
  have := rnd_of (by omega) hc
  rw [h1]
  exact ⟨this.1, by omega⟩
theorem rnd_sub (r : Rat) (f : Int) : (r - f).num = r.num - f * r.den ∧ (r - f).den = r.den := by
  have := rnd_add r (-f)
  rw [Rat.sub_eq_add_neg, ← Rat.intCast_neg, this.1, this.2]
  constructor
  · grind
  · rfl
theorem rnum_pos {r : Rat} (h : 0 < r) : 0 < r.num := by
  have := (Rat.lt_iff 0 r).1 h
  simpa using this
theorem rnd_inv {r : Rat} (h : 0 < r) : (r⁻¹).num = r.den ∧ ((r⁻¹).den : Int) = r.num ∧ 0 < r.num := by
  have hp : 0 < r.num := rnum_pos h
  rw [Rat.num_inv, Rat.den_inv, if_neg (by omega), Int.sign_eq_one_of_pos hp]
  omega
theorem rsub_pos {a b : Rat} (h : a < b) : 0 < b - a := by grind
theorem rinv_anti {a b : Rat} (ha : 0 < a) (h : a ≤ b) : b⁻¹ ≤ a⁻¹ := by
  have hb : 0 < b := by grind
  have h1 := Rat.mul_inv_cancel a (by grind)
  have h2 := Rat.mul_inv_cancel b (by grind)
  have p1 : 0 < a⁻¹ := Rat.inv_pos.2 ha
  have p2 : 0 < b⁻¹ := Rat.inv_pos.2 hb
  have := Rat.mul_le_mul_of_nonneg_right h (Rat.le_of_lt p2)
  rw [h2] at this
  have := Rat.mul_le_mul_of_nonneg_right this (Rat.le_of_lt p1)
  rwa [Rat.one_mul, Rat.mul_comm a, Rat.mul_assoc, h1, Rat.mul_one] at this
theorem sp_int {a : Rat} {b : Option Rat} {n : Int} (ha : 0 < a) (h1 : ((n - 1 : Int) : Rat) < a) (h2 : a ≤ n) (hb : ∀ x, b = some x → (n : Rat) ≤ x) : SP a b n := by
  refine ⟨⟨h2, hb⟩, fun r hr => ?_⟩
  have hd := r.den_nz
  refine ⟨by show 1 ≤ _; omega, ?_⟩
  show n.natAbs ≤ _
  have hrn : 0 < r.num := rnum_pos (by have := hr.1; grind)
  have h3 : ((n - 1 : Int) : Rat) < r := by have := hr.1; grind
  rw [Rat.lt_iff] at h3
  have h4 : (n - 1) * (r.den : Int) < r.num * 1 := h3
  have h5 : 0 < n := by
    have : (0 : Rat) < ((n : Int) : Rat) := by grind
    exact Rat.intCast_pos.1 this
  have h6 : (n - 1) * 1 ≤ (n - 1) * (r.den : Int) := Int.mul_le_mul_of_nonneg_left (by omega) (by omega)
  omega
theorem sp_step {a b : Rat} {f : Int} {q : Rat} (hf : 0 ≤ f) (h1 : (f : Rat) < a) (h2 : a ≤ b) (h : SP (b - f)⁻¹ (some (a - f)⁻¹) q) : SP a (some b) (f + q⁻¹) := by
  have pa : 0 < a - f := rsub_pos h1
  have pb : 0 < b - f := by grind
  have pq : 0 < q := by have := h.1.1; have := Rat.inv_pos.2 pb; grind
  have hq1 := h.1.1
  have hq2 := h.1.2 _ rfl
  refine ⟨⟨?_, ?_⟩, ?_⟩
  · have := rinv_anti pq hq2
    rw [Rat.inv_inv] at this
    grind
  · rintro x hx
    cases hx
    have := rinv_anti (Rat.inv_pos.2 pb) hq1
    rw [Rat.inv_inv] at this
    grind
  · rintro r ⟨hr1, hr2⟩
    have hr2 := hr2 _ rfl
    have pr : 0 < r - f := by grind
    obtain ⟨k1, k2⟩ := h.2 (r - f)⁻¹ ⟨rinv_anti pr (by grind), fun x hx => by cases hx; exact rinv_anti pa (by grind)⟩
    have e1 := rnd_inv pr
    have e2 := rnd_sub r f
    have e3 := rnd_inv pq
    have e4 := rnd_add q⁻¹ f
    rw [Rat.add_comm] at e4
    rw [e4.1, e4.2]
    rw [e1.1] at k2
    have k1' : (q.den : Int) ≤ r.num - f * r.den := by omega
    have hn : 0 < r.num := by
      have := e1.2.2
      rw [e2.1] at this
      have : 0 ≤ f * (r.den : Int) := Int.mul_nonneg hf (by omega)
      omega
    have k2' : q.num ≤ r.den := by rw [e2.2] at k2; omega
    have e5 := e3.2.1
    refine ⟨by omega, ?_⟩
    rw [e3.1, e5]
    have : f * q.num ≤ f * r.den := Int.mul_le_mul_of_nonneg_left k2' hf
    have : 0 ≤ f * q.num := Int.mul_nonneg hf (by omega)
    omega
theorem sp_uniq {a : Rat} {b : Option Rat} {p q : Rat} (ha : 0 < a) (hp : SP a b p) (hq : SP a b q) : p = q := by
  have h1 := hp.2 q hq.1
  have h2 := hq.2 p hp.1
  have : 0 < p.num := rnum_pos (by have := hp.1.1; grind)
  have : 0 < q.num := rnum_pos (by have := hq.1.1; grind)
  exact Rat.ext (by omega) (by omega)
theorem sp_less {a : Rat} {f : Int} (h1 : (f : Rat) < a) (h2 : a < ((f + 1 : Int) : Rat)) : ((a - f)⁻¹).num = a.den ∧ ((a - f)⁻¹).den < a.den ∧ (((a - f)⁻¹).den : Int) = a.num - f * a.den := by
  have e1 := rnd_inv (rsub_pos h1)
  have e2 := rnd_sub a f
  rw [Rat.lt_iff] at h2
  have h3 : a.num * 1 < (f + 1) * (a.den : Int) := h2
  refine ⟨by rw [e1.1, e2.2], ?_, by rw [e1.2.1, e2.1]⟩
  have := e1.2.1
  rw [e2.1] at this
  grind
theorem floor_le (a : Rat) : (a.floor : Rat) ≤ a := (Rat.le_floor_iff (x := a.floor)).1 (Int.le_refl _)
theorem floor_nonneg {a : Rat} (h : 0 < a) : 0 ≤ a.floor := (Rat.le_floor_iff (x := 0)).2 (by have : ((0 : Int) : Rat) = 0 := rfl; rw [this]; exact Rat.le_of_lt h)
theorem int_pred (z : Int) : (((z - 1 : Int)) : Rat) < (z : Rat) := Rat.intCast_lt_intCast.2 (by omega)
theorem sp_floor {a : Rat} {b : Option Rat} (ha : 0 < a) (c : ¬ (a.floor : Rat) < a) (hb : ∀ x, b = some x → a ≤ x) : SP a b (a.floor : Int) := by
  have e : (a.floor : Rat) = a := by have := floor_le a; grind
  refine sp_int ha ?_ (by rw [e]; exact Rat.le_refl) (fun x hx => by rw [e]; exact hb x hx)
  have := int_pred a.floor
  rwa [e] at this
theorem sp_ceil {a : Rat} {b : Option Rat} (ha : 0 < a) (c : (a.floor : Rat) < a) (hb : ∀ x, b = some x → ((a.floor + 1 : Int) : Rat) ≤ x) : SP a b ((a.floor + 1 : Int) : Rat) :=
  sp_int ha (by rw [Int.add_sub_cancel]; exact c) (Rat.le_of_lt (Rat.lt_floor_add_one a)) hb
theorem sp_ex : ∀ (m : Nat) (a b : Rat), a.den + b.den ≤ m → 0 < a → a ≤ b → ∃ q, SP a (some b) q
  | 0, a, b, h, _, _ => absurd h (by have := a.den_nz; omega)
  | m + 1, a, b, h, ha, hab => by
    by_cases c : (a.floor : Rat) < a
    · by_cases d : ((a.floor + 1 : Int) : Rat) ≤ b
      · exact ⟨_, sp_ceil ha c (fun x hx => by cases hx; exact d)⟩
      · have hb : b < ((a.floor + 1 : Int) : Rat) := by grind
        have fb : (a.floor : Rat) < b := by grind
        have h1 := sp_less c (Rat.lt_floor_add_one a)
        have h2 := sp_less fb hb
        obtain ⟨q, hq⟩ := sp_ex m (b - a.floor)⁻¹ (a - a.floor)⁻¹ (by omega) (Rat.inv_pos.2 (rsub_pos fb)) (rinv_anti (rsub_pos c) (by grind))
        exact ⟨_, sp_step (floor_nonneg ha) c hab hq⟩
    · exact ⟨_, sp_floor ha c (fun x hx => by cases hx; exact hab)⟩
def simF : Nat → Rat → Option Rat → Rat
  | 0, a, _ => a
  | m + 1, a, b => if (a.floor : Rat) < a then
      (match b with
      | none => ((a.floor + 1 : Int) : Rat)
      | some y => if ((a.floor + 1 : Int) : Rat) ≤ y then ((a.floor + 1 : Int) : Rat) else (a.floor : Rat) + (simF m (y - a.floor)⁻¹ (some (a - a.floor)⁻¹))⁻¹)
    else (a.floor : Rat)
theorem simF_sp : ∀ (m : Nat) (a b : Rat), a.den + b.den ≤ m → 0 < a → a ≤ b → SP a (some b) (simF m a (some b))
  | 0, a, b, h, _, _ => absurd h (by have := a.den_nz; omega)
  | m + 1, a, b, h, ha, hab => by
    rw [simF]
    by_cases c : (a.floor : Rat) < a
    · rw [if_pos c]
      by_cases d : ((a.floor + 1 : Int) : Rat) ≤ b
      · rw [if_pos d]
        exact sp_ceil ha c (fun x hx => by cases hx; exact d)
      · rw [if_neg d]
        have hb : b < ((a.floor + 1 : Int) : Rat) := by grind
        have fb : (a.floor : Rat) < b := by grind
        have h1 := sp_less c (Rat.lt_floor_add_one a)
        have h2 := sp_less fb hb
        exact sp_step (floor_nonneg ha) c hab (simF_sp m (b - a.floor)⁻¹ (a - a.floor)⁻¹ (by omega) (Rat.inv_pos.2 (rsub_pos fb)) (rinv_anti (rsub_pos c) (by grind)))
    · rw [if_neg c]
      exact sp_floor ha c (fun x hx => by cases hx; exact hab)
def simQ (a : Rat) (b : Option Rat) : Rat := simF (a.den + b.elim 1 Rat.den) a b
theorem simQ_some {a b : Rat} (ha : 0 < a) (hab : a ≤ b) : SP a (some b) (simQ a (some b)) := simF_sp _ a b (Nat.le_refl _) ha hab
theorem simQ_none {a : Rat} (ha : 0 < a) : SP a none (simQ a none) := by
  unfold simQ
  rw [show a.den + (none : Option Rat).elim 1 Rat.den = a.den + 1 from rfl, simF]
  by_cases c : (a.floor : Rat) < a
  · rw [if_pos c]
    exact sp_ceil ha c (fun x hx => by cases hx)
  · rw [if_neg c]
    exact sp_floor ha c (fun x hx => by cases hx)
end Go.Proofs.YtfmcgammhfdfnaaGreatDoor.PRatio
namespace Go.Proofs.YtfmcgammhfdfnaaGreatDoor.PRatio
open Go.RowKit Go.Proofs.YtfmcgammhfdfnaaGreatDoorW.PrintWords Go.Proofs.YtfmcgammhfdfnaaGreatDoorW.PrintLast Go.Proofs.YtfmcgammhfdfnaaGreatDoorW.PrintMore
set_option linter.unusedVariables false
set_option linter.unusedSimpArgs false
set_option maxHeartbeats 8000000
set_option maxRecDepth 100000
def scmp (x y : Rat) : Int := sgnI (x.num * y.den - y.num * x.den)
theorem scmp_lt (x y : Rat) : scmp x y < 0 ↔ x < y := by
  unfold scmp
  rw [sgnI_neg, Rat.lt_iff]
  omega
theorem scmp_le (x y : Rat) : scmp x y ≤ 0 ↔ x ≤ y := by
  have h := sgnI_pos (x.num * y.den - y.num * x.den)
  unfold scmp
  rw [Rat.le_iff]
  omega
section
variable {W : World} {b1 b2 b3 b4 : Bool} {A1 A2 A3 A4 : Option Addr} {x1 x2 x3 x4 c1 c2 c3 c4 k : Nat} {x y : Rat}
theorem qsub (h1 : Wh W b1 (.slice A1 x1 c1) x.num) (h2 : Wh W b2 (.slice A2 x2 c2) x.den) (h3 : Wh W b3 (.slice A3 x3 c3) y.num) (h4 : Wh W b4 (.slice A4 x4 c4) y.den) (lx : Lnq x 300) (ly : Lnq y 300) :
    Calls Tryz.prog 101 #[.agg #[.bool b1, .slice A1 x1 c1, .bool b2, .slice A2 x2 c2], .agg #[.bool b3, .slice A3 x3 c3, .bool b4, .slice A4 x4 c4]] W fun e w' => Below W.heap.size W w' ∧ RR (x - y) e w' := by
  have := rsub_calls h1 h2 h3 h4 lx.1 lx.2 ly.1 ly.2 (by omega) (by omega)
  simpa only [rq_self] using this
theorem qadd (h1 : Wh W b1 (.slice A1 x1 c1) x.num) (h2 : Wh W b2 (.slice A2 x2 c2) x.den) (h3 : Wh W b3 (.slice A3 x3 c3) y.num) (h4 : Wh W b4 (.slice A4 x4 c4) y.den) (lx : Lnq x 300) (ly : Lnq y 300) :
    Calls Tryz.prog 115 #[.agg #[.bool b1, .slice A1 x1 c1, .bool b2, .slice A2 x2 c2], .agg #[.bool b3, .slice A3 x3 c3, .bool b4, .slice A4 x4 c4]] W fun e w' => Below W.heap.size W w' ∧ RR (x + y) e w' := by
  have := radd_calls h1 h2 h3 h4 lx.1 lx.2 ly.1 ly.2 (by omega) (by omega)
  simpa only [rq_self] using this
theorem qquo (h1 : Wh W b1 (.slice A1 x1 c1) x.num) (h2 : Wh W b2 (.slice A2 x2 c2) x.den) (h3 : Wh W b3 (.slice A3 x3 c3) y.num) (h4 : Wh W b4 (.slice A4 x4 c4) y.den) (lx : Lnq x 300) (ly : Lnq y 300) (h0 : y.num ≠ 0) :
    Calls Tryz.prog 103 #[.agg #[.bool b1, .slice A1 x1 c1, .bool b2, .slice A2 x2 c2], .agg #[.bool b3, .slice A3 x3 c3, .bool b4, .slice A4 x4 c4]] W fun e w' => Below W.heap.size W w' ∧ RR (x / y) e w' := by
  have := rquo_calls h1 h2 h3 h4 lx.1 lx.2 ly.1 ly.2 (by omega) (by omega) h0
  simpa only [rq_self] using this
theorem qcmp (h1 : Wh W b1 (.slice A1 x1 c1) x.num) (h2 : Wh W b2 (.slice A2 x2 c2) x.den) (h3 : Wh W b3 (.slice A3 x3 c3) y.num) (h4 : Wh W b4 (.slice A4 x4 c4) y.den) (lx : Lnq x 300) (ly : Lnq y 300) :
    Calls Tryz.prog 167 #[.agg #[.bool b1, .slice A1 x1 c1, .bool b2, .slice A2 x2 c2], .agg #[.bool b3, .slice A3 x3 c3, .bool b4, .slice A4 x4 c4]] W fun e w' => Below W.heap.size W w' ∧ (fun e w' => e = .returned (.int .i64 (scmp x y))) e w' := by
  have := rcmp_calls h1 h2 h3 h4 lx.1 lx.2 ly.1 ly.2 (by omega) (by omega)
  simp only [dn_den] at this
  exact this
theorem qfloor (h1 : Wh W b1 (.slice A1 x1 c1) x.num) (h2 : Wh W b2 (.slice A2 x2 c2) x.den) (lx : Lnq x 300) :
    Calls Tryz.prog 124 #[.agg #[.bool b1, .slice A1 x1 c1, .bool b2, .slice A2 x2 c2]] W fun e w' => Below W.heap.size W w' ∧ RW x.floor e w' := by
  have := floor_calls h1 h2 (lx.1.fits (by omega)) ((lx.2.dn (by omega)).fits (by omega))
  rw [fl_floor] at this
  exact this
end
theorem ln_fl {q : Rat} {k : Nat} (h : Lnq q k) : Ln q.floor k := by rw [← fl_floor]; exact ln_floor h.1
theorem lnq_int {z : Int} {k : Nat} (h : Ln z k) (hk : 1 ≤ k) : Lnq (z : Rat) k := ⟨h, ln_one.mono hk⟩
theorem h11 : Rat.divInt 1 1 = 1 := rfl
theorem ln_11 : Lnq 1 300 := ⟨ln_one.mono (by omega), ln_one.mono (by omega)⟩
section
variable {W : World} {b1 b2 b3 b4 : Bool} {A1 A2 A3 A4 : Option Addr} {x1 x2 x3 x4 c1 c2 c3 c4 k : Nat} {a : Rat} {z z' : Int}
theorem simplest_none (h1 : Wh W b1 (.slice A1 x1 c1) a.num) (h2 : Wh W b2 (.slice A2 x2 c2) a.den) (h3 : Wh W b3 (.slice A3 x3 c3) z) (h4 : Wh W b4 (.slice A4 x4 c4) z') (la : Lnq a 112) (ha : 0 < a) {q : Rat} (hq : SP a none q) :
    Calls Tryz.prog 112 #[.agg #[.bool b1, .slice A1 x1 c1, .bool b2, .slice A2 x2 c2], .agg #[.bool b3, .slice A3 x3 c3, .bool b4, .slice A4 x4 c4, .bool true]] W fun e w' => Below W.heap.size W w' ∧ RR q e w' := by
  have E := ((((Env.start W).wh h1).wh h2).wh h3).wh h4
  have LA := Aside0.mk la
  have LF := Aside0.mk (ln_fl la)
  clear h1 h2 h3 h4
  by_cases c : (a.floor : Rat) < a
  · have hc : decide (scmp a.floor a < 0) = true := decide_eq_true ((scmp_lt _ _).2 c)
    obtain rfl : q = ((a.floor + 1 : Int) : Rat) := sp_uniq ha hq (sp_ceil ha c (fun x hx => by cases hx))
    clear c hq ha la
    go_enter Tryz.func112, Tryz.ntmps112
    go_wp2_with (first | ((with_reducible first | refine gate_box (by rfl) ?_ | refine gate_alloc (by rfl) ?_); refine bx_ E ?_; clear E; intro gb wb E; have hc_ := E.cls; (repeat (obtain ⟨c_, f_, hc_⟩ := hc_)); clear hc_) | (go_at_call 124; refine env_call E (qfloor E.getW E.getW (LA.out.mono (by omega))) ?_; clear E; rintro e wc E ⟨br, Ar, nr, cr, rfl, hw_⟩; replace E := E.wh hw_; clear hw_; have hc_ := E.cls; (repeat (obtain ⟨c_, f_, hc_⟩ := hc_)); clear hc_) | ((with_reducible refine gate_stored (t := 77) (by rfl) ?_); refine st_ (fun ws hs_ => ?_); replace E := Env.pt2 hs_ E; clear hs_; have hc_ := E.cls; (repeat (obtain ⟨c_, f_, hc_⟩ := hc_)); clear hc_) | ((with_reducible refine gate_stored (t := 84) (by rfl) ?_); refine st_ (fun ws hs_ => ?_); replace E := Env.pt4 hs_ E; clear hs_; have hc_ := E.cls; (repeat (obtain ⟨c_, f_, hc_⟩ := hc_)); clear hc_) | (refine start_ (id := 2) (n := 5) (S := fun w' => Cls w' _) (ds := []) (bz 5 0) (by kernel_rfl) rfl rfl E.draw.cls (fun hHeld => ?_); replace E := E.draw; refine ta_ 0 (some 11) (bz 5 1) hHeld ?_; refine ta_ 2 (some 13) (bz 5 5) hHeld ?_; refine on_ 1 (some 12) (bz 5 7) (fun K hK => ?_); refine gs_ Tryz.func168 ?_; refine env_call E (rint_calls E.getW (LF.out.fits (by omega))) ?_; clear E; rintro e wc E ⟨br, Ar, nr, cr, br2, Ar2, nr2, cr2, rfl, hw_, hw2_⟩; replace E := (E.wh hw_).wh hw2_; clear hw_ hw2_; refine ⟨_, rfl, ?_⟩; refine hK.out _ _ E.cls (fun hHeld => ?_); clear hK K; refine nm_ (some 12) ?_; refine on_ 3 (some 14) (bz 5 15) (fun K hK => ?_); refine gs_ Tryz.func167 ?_; refine env_call E (qcmp (x := (a.floor : Rat)) (y := a) E.getW E.getW E.getW E.getW (lnq_int (LF.out.mono (by omega)) (by omega)) (LA.out.mono (by omega))) ?_; clear E; rintro e wc E rfl; refine ⟨_, rfl, ?_⟩; refine hK.out _ _ E.cls (fun hHeld => ?_); clear hK K; refine nm_ (some 14) ?_; refine pu_ 4 (some 15) (bz 5 31) ?_; refine done_ (by kernel_rfl) ?_; all_goals (have hc_ := E.cls; (repeat (obtain ⟨c_, f_, hc_⟩ := hc_)); clear hc_)) | (refine start_ (id := 3) (n := 4) (S := fun w' => Cls w' _) (ds := [3]) (bz 4 0) (by kernel_rfl) rfl rfl E.draw.cls (fun hHeld => ?_); replace E := E.draw; refine ta_ 0 (some 16) (bz 4 1) hHeld ?_; refine on_ 1 (some 17) (bz 4 3) (fun K hK => ?_); refine gs_ Tryz.func121 ?_; refine env_call E (of_calls (n := 1) (by omega) (by omega)) ?_; clear E; rintro e wc E ⟨br, Ar, nr, cr, rfl, hw_⟩; replace E := E.wh hw_; clear hw_; refine ⟨_, rfl, ?_⟩; refine hK.out _ _ E.cls (fun hHeld => ?_); clear hK K; refine nm_ (some 17) ?_; refine on_ 2 (some 18) (bz 4 7) (fun K hK => ?_); refine gs_ Tryz.func123 ?_; refine env_call E (add_calls (z := a.floor) (z' := 1) E.getW E.getW (LF.out.fits (by omega)) (ln_one.fits (by omega))) ?_; clear E; rintro e wc E ⟨br, Ar, nr, cr, rfl, hw_⟩; replace E := E.wh hw_; clear hw_; refine ⟨_, rfl, ?_⟩; refine hK.out _ _ E.cls (fun hHeld => ?_); clear hK K; refine nm_ (some 18) ?_; refine la_ 3 (none) (bz 4 15) (fun K hK => ?_); have hc_ := E.cls; (repeat (obtain ⟨c_, f_, hc_⟩ := hc_)); clear hc_; refine sk_ (fun ws hs_ => ?_); replace E := Env.pt2 hs_ E; clear hs_; refine hK.out _ _ ?_; clear hK K; have hc_ := E.cls; (repeat (obtain ⟨c_, f_, hc_⟩ := hc_)); clear hc_; refine done_ (by kernel_rfl) ?_; all_goals (have hc_ := E.cls; (repeat (obtain ⟨c_, f_, hc_⟩ := hc_)); clear hc_)) | (refine start_ (id := 4) (n := 10) (S := fun w' => Cls w' _) (ds := []) (bz 10 0) (by kernel_rfl) rfl rfl E.draw.cls (fun hHeld => ?_); replace E := E.draw; refine pu_ 0 (some 19) (bz 10 1) ?_; refine ta_ 1 (some 20) (bz 10 3) hHeld ?_; refine pu_ 2 (some 21) (bz 10 7) ?_; (first | (refine pu_ 5 (some 24) (bz 10 39) ?_) | (refine po_ 5 (some 24) (bz 10 39) ?_)); (first | (refine ta_ 3 (some 22) (bz 10 47) hHeld ?_) | (refine po_ 3 (some 22) (bz 10 47) ?_)); (first | (refine ta_ 6 (some 25) (bz 10 111) hHeld ?_) | (refine po_ 6 (some 25) (bz 10 111) ?_)); refine on_ 4 (some 23) (bz 10 127) (fun K hK => ?_); (first | (refine off_ (by rfl) ?_; refine hK.out _ _ E.cls (fun hHeld => ?_); clear hK K) | (refine gs_ Tryz.func168 ?_; refine env_call E (rint_calls E.getW (by omega)) ?_; clear E; rintro e wc E ⟨br, Ar, nr, cr, br2, Ar2, nr2, cr2, rfl, hw_, hw2_⟩; replace E := (E.wh hw_).wh hw2_; clear hw_ hw2_; refine ⟨_, rfl, ?_⟩; refine hK.out _ _ E.cls (fun hHeld => ?_); clear hK K)); refine nm_ (some 23) ?_; refine on_ 7 (some 26) (bz 10 255) (fun K hK => ?_); (first | (refine off_ (by rfl) ?_; refine hK.out _ _ E.cls (fun hHeld => ?_); clear hK K) | (refine gs_ Tryz.func167 ?_; refine env_call E (qcmp E.getW E.getW E.getW E.getW (by omega) (by omega)) ?_; clear E; rintro e wc E rfl; refine ⟨_, rfl, ?_⟩; refine hK.out _ _ E.cls (fun hHeld => ?_); clear hK K)); refine nm_ (some 26) ?_; (first | (refine pu_ 8 (some 27) (bz 10 511) ?_) | (refine po_ 8 (some 27) (bz 10 511) ?_)); refine pu_ 9 (some 28) (bz 10 1023) ?_; refine done_ (by kernel_rfl) ?_; all_goals (have hc_ := E.cls; (repeat (obtain ⟨c_, f_, hc_⟩ := hc_)); clear hc_)) | (go_at_call 168; refine env_call E (rint_calls (z := a.floor + 1) E.getW ((LF.out.add (ln_one.mono (by omega))).fits (by omega))) ?_; clear E; rintro e wc E ⟨br, Ar, nr, cr, br2, Ar2, nr2, cr2, rfl, hw_, hw2_⟩; replace E := (E.wh hw_).wh hw2_; clear hw_ hw2_; have hc_ := E.cls; (repeat (obtain ⟨c_, f_, hc_⟩ := hc_)); clear hc_))
    refine bodyPost_ret (results_single rfl (.cell _ _ _ (0, 0) _ rfl (by first | exact (E.bxs.at (i := 0) rfl).2.1 | exact (E.bxs.at (i := 1) rfl).2.1 | exact (E.bxs.at (i := 2) rfl).2.1 | exact (E.bxs.at (i := 3) rfl).2.1 | exact (E.bxs.at (i := 4) rfl).2.1 | exact (E.bxs.at (i := 5) rfl).2.1 | exact (E.bxs.at (i := 6) rfl).2.1 | exact (E.bxs.at (i := 7) rfl).2.1 | exact (E.bxs.at (i := 8) rfl).2.1 | exact (E.bxs.at (i := 9) rfl).2.1) Tryz.underlying84 rfl (by kernel_rfl) .nil)) rfl ?_
    exact ⟨E.below, RQ.mk E.getW E.getW⟩
  · have hc : decide (scmp a.floor a < 0) = false := decide_eq_false (fun h => c ((scmp_lt _ _).1 h))
    obtain rfl : q = (a.floor : Rat) := sp_uniq ha hq (sp_floor ha c (fun x hx => by cases hx))
    clear c hq ha la
    go_enter Tryz.func112, Tryz.ntmps112
    go_wp2_with (first | ((with_reducible first | refine gate_box (by rfl) ?_ | refine gate_alloc (by rfl) ?_); refine bx_ E ?_; clear E; intro gb wb E; have hc_ := E.cls; (repeat (obtain ⟨c_, f_, hc_⟩ := hc_)); clear hc_) | (go_at_call 124; refine env_call E (qfloor E.getW E.getW (LA.out.mono (by omega))) ?_; clear E; rintro e wc E ⟨br, Ar, nr, cr, rfl, hw_⟩; replace E := E.wh hw_; clear hw_; have hc_ := E.cls; (repeat (obtain ⟨c_, f_, hc_⟩ := hc_)); clear hc_) | ((with_reducible refine gate_stored (t := 77) (by rfl) ?_); refine st_ (fun ws hs_ => ?_); replace E := Env.pt2 hs_ E; clear hs_; have hc_ := E.cls; (repeat (obtain ⟨c_, f_, hc_⟩ := hc_)); clear hc_) | ((with_reducible refine gate_stored (t := 84) (by rfl) ?_); refine st_ (fun ws hs_ => ?_); replace E := Env.pt4 hs_ E; clear hs_; have hc_ := E.cls; (repeat (obtain ⟨c_, f_, hc_⟩ := hc_)); clear hc_) | (refine start_ (id := 2) (n := 5) (S := fun w' => Cls w' _) (ds := []) (bz 5 0) (by kernel_rfl) rfl rfl E.draw.cls (fun hHeld => ?_); replace E := E.draw; refine ta_ 0 (some 11) (bz 5 1) hHeld ?_; refine ta_ 2 (some 13) (bz 5 5) hHeld ?_; refine on_ 1 (some 12) (bz 5 7) (fun K hK => ?_); refine gs_ Tryz.func168 ?_; refine env_call E (rint_calls E.getW (LF.out.fits (by omega))) ?_; clear E; rintro e wc E ⟨br, Ar, nr, cr, br2, Ar2, nr2, cr2, rfl, hw_, hw2_⟩; replace E := (E.wh hw_).wh hw2_; clear hw_ hw2_; refine ⟨_, rfl, ?_⟩; refine hK.out _ _ E.cls (fun hHeld => ?_); clear hK K; refine nm_ (some 12) ?_; refine on_ 3 (some 14) (bz 5 15) (fun K hK => ?_); refine gs_ Tryz.func167 ?_; refine env_call E (qcmp (x := (a.floor : Rat)) (y := a) E.getW E.getW E.getW E.getW (lnq_int (LF.out.mono (by omega)) (by omega)) (LA.out.mono (by omega))) ?_; clear E; rintro e wc E rfl; refine ⟨_, rfl, ?_⟩; refine hK.out _ _ E.cls (fun hHeld => ?_); clear hK K; refine nm_ (some 14) ?_; refine pu_ 4 (some 15) (bz 5 31) ?_; refine done_ (by kernel_rfl) ?_; all_goals (have hc_ := E.cls; (repeat (obtain ⟨c_, f_, hc_⟩ := hc_)); clear hc_)) | (refine start_ (id := 4) (n := 10) (S := fun w' => Cls w' _) (ds := []) (bz 10 0) (by kernel_rfl) rfl rfl E.draw.cls (fun hHeld => ?_); replace E := E.draw; refine pu_ 0 (some 19) (bz 10 1) ?_; refine ta_ 1 (some 20) (bz 10 3) hHeld ?_; refine pu_ 2 (some 21) (bz 10 7) ?_; (first | (refine pu_ 5 (some 24) (bz 10 39) ?_) | (refine po_ 5 (some 24) (bz 10 39) ?_)); (first | (refine ta_ 3 (some 22) (bz 10 47) hHeld ?_) | (refine po_ 3 (some 22) (bz 10 47) ?_)); (first | (refine ta_ 6 (some 25) (bz 10 111) hHeld ?_) | (refine po_ 6 (some 25) (bz 10 111) ?_)); refine on_ 4 (some 23) (bz 10 127) (fun K hK => ?_); (first | (refine off_ (by rfl) ?_; refine hK.out _ _ E.cls (fun hHeld => ?_); clear hK K) | (refine gs_ Tryz.func168 ?_; refine env_call E (rint_calls E.getW (by omega)) ?_; clear E; rintro e wc E ⟨br, Ar, nr, cr, br2, Ar2, nr2, cr2, rfl, hw_, hw2_⟩; replace E := (E.wh hw_).wh hw2_; clear hw_ hw2_; refine ⟨_, rfl, ?_⟩; refine hK.out _ _ E.cls (fun hHeld => ?_); clear hK K)); refine nm_ (some 23) ?_; refine on_ 7 (some 26) (bz 10 255) (fun K hK => ?_); (first | (refine off_ (by rfl) ?_; refine hK.out _ _ E.cls (fun hHeld => ?_); clear hK K) | (refine gs_ Tryz.func167 ?_; refine env_call E (qcmp E.getW E.getW E.getW E.getW (by omega) (by omega)) ?_; clear E; rintro e wc E rfl; refine ⟨_, rfl, ?_⟩; refine hK.out _ _ E.cls (fun hHeld => ?_); clear hK K)); refine nm_ (some 26) ?_; (first | (refine pu_ 8 (some 27) (bz 10 511) ?_) | (refine po_ 8 (some 27) (bz 10 511) ?_)); refine pu_ 9 (some 28) (bz 10 1023) ?_; refine done_ (by kernel_rfl) ?_; all_goals (have hc_ := E.cls; (repeat (obtain ⟨c_, f_, hc_⟩ := hc_)); clear hc_)) | (go_at_call 168; refine env_call E (rint_calls (z := a.floor) E.getW (LF.out.fits (by omega))) ?_; clear E; rintro e wc E ⟨br, Ar, nr, cr, br2, Ar2, nr2, cr2, rfl, hw_, hw2_⟩; replace E := (E.wh hw_).wh hw2_; clear hw_ hw2_; have hc_ := E.cls; (repeat (obtain ⟨c_, f_, hc_⟩ := hc_)); clear hc_))
    refine bodyPost_ret (results_single rfl (.cell _ _ _ (0, 0) _ rfl (by first | exact (E.bxs.at (i := 0) rfl).2.1 | exact (E.bxs.at (i := 1) rfl).2.1 | exact (E.bxs.at (i := 2) rfl).2.1 | exact (E.bxs.at (i := 3) rfl).2.1 | exact (E.bxs.at (i := 4) rfl).2.1 | exact (E.bxs.at (i := 5) rfl).2.1 | exact (E.bxs.at (i := 6) rfl).2.1 | exact (E.bxs.at (i := 7) rfl).2.1 | exact (E.bxs.at (i := 8) rfl).2.1 | exact (E.bxs.at (i := 9) rfl).2.1) Tryz.underlying84 rfl (by kernel_rfl) .nil)) rfl ?_
    exact ⟨E.below, RQ.mk E.getW E.getW⟩
end
def LeM (q : Rat) (M : Nat) : Prop := q.num.natAbs ≤ M ∧ q.den ≤ M
theorem LeM.ln {q : Rat} {M : Nat} (h : LeM q M) (hM : Ln (M : Int) 112) : Lnq q 112 :=
  ⟨Nat.le_trans (len_mono (by rw [Int.natAbs_natCast]; exact h.1)) hM, Nat.le_trans (len_mono (by rw [Int.natAbs_natCast, Int.natAbs_natCast]; exact h.2)) hM⟩
theorem frac_one {W : World} : Calls Tryz.prog 116 #[.int .i64 1, .int .i64 1] W fun e w' => Below W.heap.size W w' ∧ RR 1 e w' := by
  have := frac_calls (W := W) (m := 1) (p := 1) (by omega) (by omega) (by omega) (by omega) (by omega)
  rwa [h11] at this
section
variable {W : World} {b1 b2 b3 b4 : Bool} {A1 A2 A3 A4 : Option Addr} {x1 x2 x3 x4 c1 c2 c3 c4 k : Nat}
theorem qinv {y : Rat} (h1 : Wh W b1 (.slice A1 x1 c1) (1 : Rat).num) (h2 : Wh W b2 (.slice A2 x2 c2) ((1 : Rat).den : Int)) (h3 : Wh W b3 (.slice A3 x3 c3) y.num) (h4 : Wh W b4 (.slice A4 x4 c4) y.den) (ly : Lnq y 300) (h0 : y.num ≠ 0) :
    Calls Tryz.prog 103 #[.agg #[.bool b1, .slice A1 x1 c1, .bool b2, .slice A2 x2 c2], .agg #[.bool b3, .slice A3 x3 c3, .bool b4, .slice A4 x4 c4]] W fun e w' => Below W.heap.size W w' ∧ RR y⁻¹ e w' := by
  have := qquo (x := 1) h1 h2 h3 h4 ln_11 ly h0
  rwa [Rat.div_def, Rat.one_mul] at this
theorem sub_one {z n : Int} (hn : n = z + 1) (h1 : Wh W b1 (.slice A1 x1 c1) n) (h2 : Wh W b2 (.slice A2 x2 c2) 1) (hf : Fits n) (hf' : Fits 1) : Calls Tryz.prog 169 #[.agg #[.bool b1, .slice A1 x1 c1], .agg #[.bool b2, .slice A2 x2 c2]] W fun e w' => Below W.heap.size W w' ∧ RW z e w' := by
  have := sub_calls h1 h2 hf hf'
  rwa [hn, Int.add_sub_cancel] at this
theorem add_one {z n : Int} (hn : n = z + 1) (h1 : Wh W b1 (.slice A1 x1 c1) z) (h2 : Wh W b2 (.slice A2 x2 c2) 1) (hf : Fits z) (hf' : Fits 1) : Calls Tryz.prog 123 #[.agg #[.bool b1, .slice A1 x1 c1], .agg #[.bool b2, .slice A2 x2 c2]] W fun e w' => Below W.heap.size W w' ∧ RW n e w' := by
  have := add_calls h1 h2 hf hf'
  rwa [← hn] at this
end
def sndC : Code → Code | .seq _ b => b | c => c
def fstC : Code → Code | .seq a _ => a | c => c
def tail8 (f : Func) : Code := sndC (sndC (sndC (sndC (sndC (sndC (f.body.getD .skip))))))
theorem Env.bare {w W : World} {rows : List (World → Prop)} {bx : List (Nat × List Value × Nat)} (E : Env w W rows bx) : Env w W [] bx := ⟨E.below, fun _ h => (by cases h), E.bxs⟩
structure Nxt (a y q' : Rat) (f : Int) : Prop where
  LA : Lnq a 112
  LY : Lnq y 112
  LF : Ln f 112
  LQ : Lnq q' 112
  LQI : Lnq q'⁻¹ 112
  NQ : q'.num ≠ 0
  NA : (a - (f : Rat)).num ≠ 0
  NY : (y - (f : Rat)).num ≠ 0
  LYF : Lnq (y - (f : Rat)) 300
  LAF : Lnq (a - (f : Rat)) 300
  IH : ∀ W b1 b2 b3 b4 A1 A2 A3 A4 x1 x2 x3 x4 c1 c2 c3 c4, Wh W b1 (.slice A1 x1 c1) (y - (f : Rat))⁻¹.num → Wh W b2 (.slice A2 x2 c2) (y - (f : Rat))⁻¹.den → Wh W b3 (.slice A3 x3 c3) (a - (f : Rat))⁻¹.num → Wh W b4 (.slice A4 x4 c4) (a - (f : Rat))⁻¹.den →
    Calls Tryz.prog 112 #[.agg #[.bool b1, .slice A1 x1 c1, .bool b2, .slice A2 x2 c2], .agg #[.bool b3, .slice A3 x3 c3, .bool b4, .slice A4 x4 c4, .bool false]] W fun e w' => Below W.heap.size W w' ∧ RR q' e w'
theorem simp_tail9 {W w : World} {a y q' : Rat} {f : Int} (H : Aside0 (Nxt a y q' f)) {Q : Exit → Act → World → Prop} (hQ : Q = bodyPost Tryz.prog Tryz.f112 fun e w' => Below W.heap.size W w' ∧ RR (f + q'⁻¹) e w')
    {g2 g3 g4 g5 g6 g7 g8 : Nat} {b1 b2 b3 b4 b5 b6 b7 b8 b9 b10 b11 : Bool} {A1 A2 A3 A4 A5 A6 A7 A8 A9 A10 A11 : Option Addr} {x1 x2 x3 x4 x5 x6 x7 x8 x9 x10 x11 c1 c2 c3 c4 c5 c6 c7 c8 c9 c10 c11 : Nat}
    {v0 v1 v9 v10 v11 v12 v13 v14 v15 v16 v17 v18 v19 v20 v21 v22 v23 v24 v25 v26 v27 v28 v29 v30 v31 v32 v33 v34 v35 v36 v37 v38 v39 v40 v41 v42 v43 v44 v45 v46 v47 v48 v49 v50 v51 v52 v53 : Value}
    (E : Env W w [] [(g8, [.bool b10, .slice A10 x10 c10, .bool b11, .slice A11 x11 c11], 84), (g7, [.bool b1, .slice A1 x1 c1, .bool b2, .slice A2 x2 c2], 84), (g6, [.bool b3, .slice A3 x3 c3, .bool b4, .slice A4 x4 c4], 84), (g5, [.bool b9, .slice A9 x9 c9], 77), (g4, [.bool false, .slice none 0 0, .bool false, .slice none 0 0], 84), (g3, [.bool b7, .slice A7 x7 c7, .bool b8, .slice A8 x8 c8, .bool false], 108), (g2, [.bool b5, .slice A5 x5 c5, .bool b6, .slice A6 x6 c6], 84)])
    (h1 : Wh w b1 (.slice A1 x1 c1) (1 : Rat).num) (h2 : Wh w b2 (.slice A2 x2 c2) ((1 : Rat).den : Int)) (h3 : Wh w b3 (.slice A3 x3 c3) (f : Rat).num) (h4 : Wh w b4 (.slice A4 x4 c4) ((f : Rat).den : Int)) (h5 : Wh w b10 (.slice A10 x10 c10) q'.num) (h6 : Wh w b11 (.slice A11 x11 c11) q'.den) :
    Code.wp Tryz.prog (sndC (tail8 Tryz.f112)) Q { tmps := #[v0, v1, .pointer (some ⟨g2, 0, none⟩), .pointer (some ⟨g3, 0, none⟩), .pointer (some ⟨g4, 0, none⟩), .pointer (some ⟨g5, 0, none⟩), .pointer (some ⟨g6, 0, none⟩), .pointer (some ⟨g7, 0, none⟩), .pointer (some ⟨g8, 0, none⟩), v9, v10, v11, v12, v13, v14, v15, v16, v17, v18, v19, v20, v21, v22, v23, v24, v25, v26, v27, v28, v29, v30, v31, v32, v33, v34, v35, v36, v37, v38, v39, v40, v41, v42, v43, v44, v45, v46, v47, v48, v49, v50, v51, v52, v53], defers := [] } w := by
  replace E := (((((E.wh h1).wh h2).wh h3).wh h4).wh h5).wh h6
  clear h1 h2 h3 h4 h5 h6
  subst hQ
  dsimp only [tail8, fstC, sndC, Tryz.f112, Option.getD]
  have hc_ := E.cls; (repeat (obtain ⟨c_, f_, hc_⟩ := hc_)); clear hc_
  go_wp2_with (first | ((with_reducible refine gate_stored (t := 77) (by rfl) ?_); refine st_ (fun ws hs_ => ?_); replace E := Env.pt2 hs_ E; clear hs_; have hc_ := E.cls; (repeat (obtain ⟨c_, f_, hc_⟩ := hc_)); clear hc_) | ((with_reducible refine gate_stored (t := 84) (by rfl) ?_); refine st_ (fun ws hs_ => ?_); replace E := Env.pt4 hs_ E; clear hs_; have hc_ := E.cls; (repeat (obtain ⟨c_, f_, hc_⟩ := hc_)); clear hc_) | (refine start_ (id := 9) (n := 6) (S := fun w' => Cls w' _) (ds := [5]) (bz 6 0) (by kernel_rfl) rfl rfl E.draw.cls (fun hHeld => ?_); replace E := E.draw; refine ta_ 0 (some 49) (bz 6 1) hHeld ?_; refine ta_ 1 (some 50) (bz 6 3) hHeld ?_; refine ta_ 2 (some 51) (bz 6 7) hHeld ?_; refine on_ 3 (some 52) (bz 6 15) (fun K hK => ?_); refine gs_ Tryz.func103 ?_; refine env_call E (qinv E.getW E.getW E.getW E.getW (H.out.LQ.mono (by omega)) H.out.NQ) ?_; clear E; rintro e wc E ⟨br, Ar, nr, cr, br2, Ar2, nr2, cr2, rfl, hw_, hw2_⟩; replace E := (E.wh hw_).wh hw2_; clear hw_ hw2_; refine ⟨_, rfl, ?_⟩; refine hK.out _ _ E.cls (fun hHeld => ?_); clear hK K; refine nm_ (some 52) ?_; refine on_ 4 (some 53) (bz 6 31) (fun K hK => ?_); refine gs_ Tryz.func115 ?_; refine env_call E (qadd (x := (f : Rat)) (y := q'⁻¹) E.getW E.getW E.getW E.getW (lnq_int (H.out.LF.mono (by omega)) (by omega)) (H.out.LQI.mono (by omega))) ?_; clear E; rintro e wc E ⟨br, Ar, nr, cr, br2, Ar2, nr2, cr2, rfl, hw_, hw2_⟩; replace E := (E.wh hw_).wh hw2_; clear hw_ hw2_; refine ⟨_, rfl, ?_⟩; refine hK.out _ _ E.cls (fun hHeld => ?_); clear hK K; refine nm_ (some 53) ?_; refine la_ 5 (none) (bz 6 63) (fun K hK => ?_); have hc_ := E.cls; (repeat (obtain ⟨c_, f_, hc_⟩ := hc_)); clear hc_; refine sk_ (fun ws hs_ => ?_); replace E := Env.pt4 hs_ E; clear hs_; refine hK.out _ _ ?_; clear hK K; have hc_ := E.cls; (repeat (obtain ⟨c_, f_, hc_⟩ := hc_)); clear hc_; refine done_ (by kernel_rfl) ?_; all_goals (have hc_ := E.cls; (repeat (obtain ⟨c_, f_, hc_⟩ := hc_)); clear hc_)))
  refine bodyPost_ret (results_single rfl (.cell _ _ _ (0, 0) _ rfl (by first | exact (E.bxs.at (i := 0) rfl).2.1 | exact (E.bxs.at (i := 1) rfl).2.1 | exact (E.bxs.at (i := 2) rfl).2.1 | exact (E.bxs.at (i := 3) rfl).2.1 | exact (E.bxs.at (i := 4) rfl).2.1 | exact (E.bxs.at (i := 5) rfl).2.1 | exact (E.bxs.at (i := 6) rfl).2.1 | exact (E.bxs.at (i := 7) rfl).2.1 | exact (E.bxs.at (i := 8) rfl).2.1 | exact (E.bxs.at (i := 9) rfl).2.1) Tryz.underlying84 rfl (by kernel_rfl) .nil)) rfl ?_
  exact ⟨E.below, RQ.mk E.getW E.getW⟩
theorem simp_tail {W w : World} {a y q' : Rat} {f : Int} (H : Aside0 (Nxt a y q' f)) {K : Act → World → Prop} {Q : Exit → Act → World → Prop} (hQ : Q = bodyPost Tryz.prog Tryz.f112 fun e w' => Below W.heap.size W w' ∧ RR (f + q'⁻¹) e w')
    (hK : ∀ a w, Code.wp Tryz.prog (sndC (tail8 Tryz.f112)) Q a w → K a w) {g2 g3 g4 g5 g6 g7 : Nat}
    {b1 b2 b3 b4 b5 b6 b7 b8 b9 : Bool} {A1 A2 A3 A4 A5 A6 A7 A8 A9 : Option Addr} {x1 x2 x3 x4 x5 x6 x7 x8 x9 c1 c2 c3 c4 c5 c6 c7 c8 c9 : Nat}
    {v0 v1 v8 v9 v10 v11 v12 v13 v14 v15 v16 v17 v18 v19 v20 v21 v22 v23 v24 v25 v26 v27 v28 v29 v30 v31 v32 v33 v34 v35 v36 v37 v38 v39 v40 v41 v42 v43 v44 v45 v46 v47 v48 v49 v50 v51 v52 v53 : Value}
    (E : Env W w [] [(g7, [.bool b1, .slice A1 x1 c1, .bool b2, .slice A2 x2 c2], 84), (g6, [.bool b3, .slice A3 x3 c3, .bool b4, .slice A4 x4 c4], 84), (g5, [.bool b9, .slice A9 x9 c9], 77), (g4, [.bool false, .slice none 0 0, .bool false, .slice none 0 0], 84), (g3, [.bool b7, .slice A7 x7 c7, .bool b8, .slice A8 x8 c8, .bool false], 108), (g2, [.bool b5, .slice A5 x5 c5, .bool b6, .slice A6 x6 c6], 84)])
    (h1 : Wh w b1 (.slice A1 x1 c1) (1 : Rat).num) (h2 : Wh w b2 (.slice A2 x2 c2) ((1 : Rat).den : Int)) (h3 : Wh w b3 (.slice A3 x3 c3) (f : Rat).num) (h4 : Wh w b4 (.slice A4 x4 c4) ((f : Rat).den : Int)) (h5 : Wh w b5 (.slice A5 x5 c5) a.num) (h6 : Wh w b6 (.slice A6 x6 c6) a.den) (h7 : Wh w b7 (.slice A7 x7 c7) y.num) (h8 : Wh w b8 (.slice A8 x8 c8) y.den) :
    Code.wp Tryz.prog (fstC (tail8 Tryz.f112)) (Exit.then K Q) { tmps := #[v0, v1, .pointer (some ⟨g2, 0, none⟩), .pointer (some ⟨g3, 0, none⟩), .pointer (some ⟨g4, 0, none⟩), .pointer (some ⟨g5, 0, none⟩), .pointer (some ⟨g6, 0, none⟩), .pointer (some ⟨g7, 0, none⟩), v8, v9, v10, v11, v12, v13, v14, v15, v16, v17, v18, v19, v20, v21, v22, v23, v24, v25, v26, v27, v28, v29, v30, v31, v32, v33, v34, v35, v36, v37, v38, v39, v40, v41, v42, v43, v44, v45, v46, v47, v48, v49, v50, v51, v52, v53], defers := [] } w := by
  replace E := (((((((E.wh h1).wh h2).wh h3).wh h4).wh h5).wh h6).wh h7).wh h8
  clear h1 h2 h3 h4 h5 h6 h7 h8
  subst hQ
  have hK' : Aside0 (∀ a w, Code.wp Tryz.prog (sndC (tail8 Tryz.f112)) (bodyPost Tryz.prog Tryz.f112 fun e w' => Below W.heap.size W w' ∧ RR (f + q'⁻¹) e w') a w → K a w) := ⟨hK⟩
  clear hK
  dsimp only [tail8, fstC, sndC, Tryz.f112, Option.getD]
  have hc_ := E.cls; (repeat (obtain ⟨c_, f_, hc_⟩ := hc_)); clear hc_
  (refine start_ (id := 8) (n := 15) (S := fun w' => Cls w' _) (ds := [14]) (bz 15 0) (by kernel_rfl) rfl rfl E.draw.cls (fun hHeld => ?_); replace E := E.draw; refine pu_ 1 (some 37) (bz 15 2) ?_; refine ta_ 0 (some 36) (bz 15 3) hHeld ?_; refine ta_ 2 (some 38) (bz 15 7) hHeld ?_; refine ta_ 3 (some 39) (bz 15 15) hHeld ?_; refine ta_ 6 (some 42) (bz 15 79) hHeld ?_; refine ta_ 7 (some 43) (bz 15 207) hHeld ?_; refine ta_ 8 (some 44) (bz 15 463) hHeld ?_; (repeat (any_goals (first | ((with_reducible refine at_ (bz 15 463) ?_); refine two_ (i := 4) (j := 13) (Ni := some 40) (Nj := some 8) (bz 15 479) (bz 15 8655) rfl rfl rfl rfl (by kernel_rfl) (by decide) (by decide) (fun K hK => ?_) (fun K hK => ?_); (focus (refine gs_ Tryz.func101 ?_; refine env_call E (qsub (x := y) (y := (f : Rat)) E.getW E.getW E.getW E.getW (H.out.LY.mono (by omega)) (lnq_int (H.out.LF.mono (by omega)) (by omega))) ?_; clear E; rintro e wc E ⟨br, Ar, nr, cr, br2, Ar2, nr2, cr2, rfl, hw_, hw2_⟩; replace E := (E.wh hw_).wh hw2_; clear hw_ hw2_; refine ⟨_, rfl, ?_⟩; refine hK.out _ _ E.cls (fun hHeld => ?_); clear hK K; refine nm_ (some 40) ?_)); rotate_left; (focus (refine value_env E (by rfl) rfl ?_; clear E; apply Exists.intro; apply Exists.intro; refine ⟨?_, ?_, fun gb wb E => ?_⟩; (· (first | rfl | (go_simp; done) | (go_simp; rfl))); (· rfl); refine hK.out _ _ (E.clsD 1) (fun hHeld => ?_); clear hK K; refine nm_ (some 8) ?_)); rotate_left) | ((with_reducible refine at_ (bz 15 479) ?_); refine two_ (i := 5) (j := 13) (Ni := some 41) (Nj := some 8) (bz 15 511) (bz 15 8671) rfl rfl rfl rfl (by kernel_rfl) (by decide) (by decide) (fun K hK => ?_) (fun K hK => ?_); (focus (refine gs_ Tryz.func103 ?_; refine env_call E (qinv (y := y - (f : Rat)) E.getW E.getW E.getW E.getW H.out.LYF H.out.NY) ?_; clear E; rintro e wc E ⟨br, Ar, nr, cr, br2, Ar2, nr2, cr2, rfl, hw_, hw2_⟩; replace E := (E.wh hw_).wh hw2_; clear hw_ hw2_; refine ⟨_, rfl, ?_⟩; refine hK.out _ _ E.cls (fun hHeld => ?_); clear hK K; refine nm_ (some 41) ?_)); rotate_left; (focus (refine value_env E (by rfl) rfl ?_; clear E; apply Exists.intro; apply Exists.intro; refine ⟨?_, ?_, fun gb wb E => ?_⟩; (· (first | rfl | (go_simp; done) | (go_simp; rfl))); (· rfl); refine hK.out _ _ (E.clsD 1) (fun hHeld => ?_); clear hK K; refine nm_ (some 8) ?_)); rotate_left) | ((with_reducible refine at_ (bz 15 8655) ?_); refine on_ 4 (some 40) (bz 15 8671) (fun K hK => ?_); refine gs_ Tryz.func101 ?_; refine env_call E (qsub (x := y) (y := (f : Rat)) E.getW E.getW E.getW E.getW (H.out.LY.mono (by omega)) (lnq_int (H.out.LF.mono (by omega)) (by omega))) ?_; clear E; rintro e wc E ⟨br, Ar, nr, cr, br2, Ar2, nr2, cr2, rfl, hw_, hw2_⟩; replace E := (E.wh hw_).wh hw2_; clear hw_ hw2_; refine ⟨_, rfl, ?_⟩; refine hK.out _ _ (E.clsD 1) (fun hHeld => ?_); clear hK K; refine nm_ (some 40) ?_) | ((with_reducible refine at_ (bz 15 511) ?_); refine two_ (i := 9) (j := 13) (Ni := some 45) (Nj := some 8) (bz 15 1023) (bz 15 8703) rfl rfl rfl rfl (by kernel_rfl) (by decide) (by decide) (fun K hK => ?_) (fun K hK => ?_); (focus (refine gs_ Tryz.func101 ?_; refine env_call E (qsub (x := a) (y := (f : Rat)) E.getW E.getW E.getW E.getW (H.out.LA.mono (by omega)) (lnq_int (H.out.LF.mono (by omega)) (by omega))) ?_; clear E; rintro e wc E ⟨br, Ar, nr, cr, br2, Ar2, nr2, cr2, rfl, hw_, hw2_⟩; replace E := (E.wh hw_).wh hw2_; clear hw_ hw2_; refine ⟨_, rfl, ?_⟩; refine hK.out _ _ E.cls (fun hHeld => ?_); clear hK K; refine nm_ (some 45) ?_)); rotate_left; (focus (refine value_env E (by rfl) rfl ?_; clear E; apply Exists.intro; apply Exists.intro; refine ⟨?_, ?_, fun gb wb E => ?_⟩; (· (first | rfl | (go_simp; done) | (go_simp; rfl))); (· rfl); refine hK.out _ _ (E.clsD 1) (fun hHeld => ?_); clear hK K; refine nm_ (some 8) ?_)); rotate_left) | ((with_reducible refine at_ (bz 15 8671) ?_); refine on_ 5 (some 41) (bz 15 8703) (fun K hK => ?_); refine gs_ Tryz.func103 ?_; refine env_call E (qinv (y := y - (f : Rat)) E.getW E.getW E.getW E.getW H.out.LYF H.out.NY) ?_; clear E; rintro e wc E ⟨br, Ar, nr, cr, br2, Ar2, nr2, cr2, rfl, hw_, hw2_⟩; replace E := (E.wh hw_).wh hw2_; clear hw_ hw2_; refine ⟨_, rfl, ?_⟩; refine hK.out _ _ (E.clsD 1) (fun hHeld => ?_); clear hK K; refine nm_ (some 41) ?_) | ((with_reducible refine at_ (bz 15 1023) ?_); refine two_ (i := 10) (j := 13) (Ni := some 46) (Nj := some 8) (bz 15 2047) (bz 15 9215) rfl rfl rfl rfl (by kernel_rfl) (by decide) (by decide) (fun K hK => ?_) (fun K hK => ?_); (focus (refine gs_ Tryz.func103 ?_; refine env_call E (qinv (y := a - (f : Rat)) E.getW E.getW E.getW E.getW H.out.LAF H.out.NA) ?_; clear E; rintro e wc E ⟨br, Ar, nr, cr, br2, Ar2, nr2, cr2, rfl, hw_, hw2_⟩; replace E := (E.wh hw_).wh hw2_; clear hw_ hw2_; refine ⟨_, rfl, ?_⟩; refine hK.out _ _ E.cls (fun hHeld => ?_); clear hK K; refine nm_ (some 46) ?_)); rotate_left; (focus (refine value_env E (by rfl) rfl ?_; clear E; apply Exists.intro; apply Exists.intro; refine ⟨?_, ?_, fun gb wb E => ?_⟩; (· (first | rfl | (go_simp; done) | (go_simp; rfl))); (· rfl); refine hK.out _ _ (E.clsD 1) (fun hHeld => ?_); clear hK K; refine nm_ (some 8) ?_)); rotate_left) | ((with_reducible refine at_ (bz 15 8703) ?_); refine on_ 9 (some 45) (bz 15 9215) (fun K hK => ?_); refine gs_ Tryz.func101 ?_; refine env_call E (qsub (x := a) (y := (f : Rat)) E.getW E.getW E.getW E.getW (H.out.LA.mono (by omega)) (lnq_int (H.out.LF.mono (by omega)) (by omega))) ?_; clear E; rintro e wc E ⟨br, Ar, nr, cr, br2, Ar2, nr2, cr2, rfl, hw_, hw2_⟩; replace E := (E.wh hw_).wh hw2_; clear hw_ hw2_; refine ⟨_, rfl, ?_⟩; refine hK.out _ _ (E.clsD 1) (fun hHeld => ?_); clear hK K; refine nm_ (some 45) ?_) | ((with_reducible refine at_ (bz 15 2047) ?_); refine pu_ 11 (some 47) (bz 15 4095) ?_) | ((with_reducible refine at_ (bz 15 9215) ?_); refine on_ 10 (some 46) (bz 15 10239) (fun K hK => ?_); refine gs_ Tryz.func103 ?_; refine env_call E (qinv (y := a - (f : Rat)) E.getW E.getW E.getW E.getW H.out.LAF H.out.NA) ?_; clear E; rintro e wc E ⟨br, Ar, nr, cr, br2, Ar2, nr2, cr2, rfl, hw_, hw2_⟩; replace E := (E.wh hw_).wh hw2_; clear hw_ hw2_; refine ⟨_, rfl, ?_⟩; refine hK.out _ _ (E.clsD 1) (fun hHeld => ?_); clear hK K; refine nm_ (some 46) ?_) | ((with_reducible refine at_ (bz 15 4095) ?_); refine two_ (i := 12) (j := 13) (Ni := some 48) (Nj := some 8) (bz 15 8191) (bz 15 12287) rfl rfl rfl rfl (by kernel_rfl) (by decide) (by decide) (fun K hK => ?_) (fun K hK => ?_); (focus (refine gs_ Tryz.func112 ?_; refine env_call E (H.out.IH _ _ _ _ _ _ _ _ _ _ _ _ _ _ _ _ _ E.getW E.getW E.getW E.getW) ?_; clear E; rintro e wc E ⟨br, Ar, nr, cr, br2, Ar2, nr2, cr2, rfl, hw_, hw2_⟩; replace E := (E.wh hw_).wh hw2_; clear hw_ hw2_; refine ⟨_, rfl, ?_⟩; refine hK.out _ _ E.cls (fun hHeld => ?_); clear hK K; refine nm_ (some 48) ?_)); rotate_left; (focus (refine value_env E (by rfl) rfl ?_; clear E; apply Exists.intro; apply Exists.intro; refine ⟨?_, ?_, fun gb wb E => ?_⟩; (· (first | rfl | (go_simp; done) | (go_simp; rfl))); (· rfl); refine hK.out _ _ (E.clsD 1) (fun hHeld => ?_); clear hK K; refine nm_ (some 8) ?_)); rotate_left) | ((with_reducible refine at_ (bz 15 10239) ?_); refine pu_ 11 (some 47) (bz 15 12287) ?_) | ((with_reducible refine at_ (bz 15 8191) ?_); refine on_ 13 (some 8) (bz 15 16383) (fun K hK => ?_); refine value_env E (by rfl) rfl ?_; clear E; apply Exists.intro; apply Exists.intro; refine ⟨?_, ?_, fun gb wb E => ?_⟩; (· (first | rfl | (go_simp; done) | (go_simp; rfl))); (· rfl); refine hK.out _ _ (E.clsD 1) (fun hHeld => ?_); clear hK K; refine nm_ (some 8) ?_) | ((with_reducible refine at_ (bz 15 12287) ?_); refine on_ 12 (some 48) (bz 15 16383) (fun K hK => ?_); refine gs_ Tryz.func112 ?_; refine env_call E (H.out.IH _ _ _ _ _ _ _ _ _ _ _ _ _ _ _ _ _ E.getW E.getW E.getW E.getW) ?_; clear E; rintro e wc E ⟨br, Ar, nr, cr, br2, Ar2, nr2, cr2, rfl, hw_, hw2_⟩; replace E := (E.wh hw_).wh hw2_; clear hw_ hw2_; refine ⟨_, rfl, ?_⟩; refine hK.out _ _ (E.clsD 1) (fun hHeld => ?_); clear hK K; refine nm_ (some 48) ?_) | ((with_reducible refine at_ (bz 15 16383) ?_); refine la_ 14 (none) (bz 15 32767) (fun K hK => ?_); have hc_ := E.cls; (repeat (obtain ⟨c_, f_, hc_⟩ := hc_)); clear hc_; refine sk_ (fun ws hs_ => ?_); replace E := Env.pt4 hs_ E; clear hs_; refine hK.out _ _ ?_; clear hK K; have hc_ := E.cls; (repeat (obtain ⟨c_, f_, hc_⟩ := hc_)); clear hc_) | ((with_reducible refine at_ (bz 15 32767) ?_); refine done_ (by kernel_rfl) ?_)))); all_goals (have hc_ := E.cls; (repeat (obtain ⟨c_, f_, hc_⟩ := hc_)); clear hc_))
  all_goals exact hK'.out _ _ (simp_tail9 H rfl E.bare E.getW E.getW E.getW E.getW E.getW E.getW)
theorem simplest_some {M : Nat} (hM : Ln (M : Int) 112) : ∀ (m : Nat) {W : World} {b1 b2 b3 b4 : Bool} {A1 A2 A3 A4 : Option Addr} {x1 x2 x3 x4 c1 c2 c3 c4 : Nat} {a y : Rat}, a.den + y.den ≤ m →
    Wh W b1 (.slice A1 x1 c1) a.num → Wh W b2 (.slice A2 x2 c2) a.den → Wh W b3 (.slice A3 x3 c3) y.num → Wh W b4 (.slice A4 x4 c4) y.den → LeM a M → LeM y M → 0 < a → a ≤ y → ∀ {q : Rat}, SP a (some y) q →
    Calls Tryz.prog 112 #[.agg #[.bool b1, .slice A1 x1 c1, .bool b2, .slice A2 x2 c2], .agg #[.bool b3, .slice A3 x3 c3, .bool b4, .slice A4 x4 c4, .bool false]] W fun e w' => Below W.heap.size W w' ∧ RR q e w' := by
  intro m
  induction m with
  | zero => intro W b1 b2 b3 b4 A1 A2 A3 A4 x1 x2 x3 x4 c1 c2 c3 c4 a y h; exact absurd h (by have := a.den_nz; omega)
  | succ m ih =>
    intro W b1 b2 b3 b4 A1 A2 A3 A4 x1 x2 x3 x4 c1 c2 c3 c4 a y hm h1 h2 h3 h4 la ly ha hay q hq
    have E := ((((Env.start W).wh h1).wh h2).wh h3).wh h4
    have LA := Aside0.mk (la.ln hM)
    have LY := Aside0.mk (ly.ln hM)
    have LF := Aside0.mk (ln_fl (la.ln hM))
    clear h1 h2 h3 h4
    by_cases c : (a.floor : Rat) < a
    · have hc : decide (scmp a.floor a < 0) = true := decide_eq_true ((scmp_lt _ _).2 c)
      obtain ⟨n, hn⟩ : ∃ n, n = a.floor + 1 := ⟨_, rfl⟩
      have HN := Aside0.mk hn
      have LFN := Aside0.mk (show Ln n 113 by rw [hn]; exact LF.out.add (ln_one.mono (by omega)))
      by_cases d : ((n : Int) : Rat) ≤ y
      · have hd : decide (scmp ((n : Int) : Rat) y ≤ 0) = true := decide_eq_true ((scmp_le _ _).2 d)
        obtain rfl : q = ((n : Int) : Rat) := sp_uniq ha hq (hn ▸ sp_ceil ha c (fun x hx => by cases hx; exact hn ▸ d))
        clear c d hq ha hay la ly hm ih hM hn
        go_enter Tryz.func112, Tryz.ntmps112
        go_wp2_with (first | ((with_reducible first | refine gate_box (by rfl) ?_ | refine gate_alloc (by rfl) ?_); refine bx_ E ?_; clear E; intro gb wb E; have hc_ := E.cls; (repeat (obtain ⟨c_, f_, hc_⟩ := hc_)); clear hc_) | (go_at_call 124; refine env_call E (qfloor E.getW E.getW (LA.out.mono (by omega))) ?_; clear E; rintro e wc E ⟨br, Ar, nr, cr, rfl, hw_⟩; replace E := E.wh hw_; clear hw_; have hc_ := E.cls; (repeat (obtain ⟨c_, f_, hc_⟩ := hc_)); clear hc_) | ((with_reducible refine gate_stored (t := 77) (by rfl) ?_); refine st_ (fun ws hs_ => ?_); replace E := Env.pt2 hs_ E; clear hs_; have hc_ := E.cls; (repeat (obtain ⟨c_, f_, hc_⟩ := hc_)); clear hc_) | ((with_reducible refine gate_stored (t := 84) (by rfl) ?_); refine st_ (fun ws hs_ => ?_); replace E := Env.pt4 hs_ E; clear hs_; have hc_ := E.cls; (repeat (obtain ⟨c_, f_, hc_⟩ := hc_)); clear hc_) | (refine start_ (id := 2) (n := 5) (S := fun w' => Cls w' _) (ds := []) (bz 5 0) (by kernel_rfl) rfl rfl E.draw.cls (fun hHeld => ?_); replace E := E.draw; refine ta_ 0 (some 11) (bz 5 1) hHeld ?_; refine ta_ 2 (some 13) (bz 5 5) hHeld ?_; refine on_ 1 (some 12) (bz 5 7) (fun K hK => ?_); refine gs_ Tryz.func168 ?_; refine env_call E (rint_calls E.getW (LF.out.fits (by omega))) ?_; clear E; rintro e wc E ⟨br, Ar, nr, cr, br2, Ar2, nr2, cr2, rfl, hw_, hw2_⟩; replace E := (E.wh hw_).wh hw2_; clear hw_ hw2_; refine ⟨_, rfl, ?_⟩; refine hK.out _ _ E.cls (fun hHeld => ?_); clear hK K; refine nm_ (some 12) ?_; refine on_ 3 (some 14) (bz 5 15) (fun K hK => ?_); refine gs_ Tryz.func167 ?_; refine env_call E (qcmp (x := (a.floor : Rat)) (y := a) E.getW E.getW E.getW E.getW (lnq_int (LF.out.mono (by omega)) (by omega)) (LA.out.mono (by omega))) ?_; clear E; rintro e wc E rfl; refine ⟨_, rfl, ?_⟩; refine hK.out _ _ E.cls (fun hHeld => ?_); clear hK K; refine nm_ (some 14) ?_; refine pu_ 4 (some 15) (bz 5 31) ?_; refine done_ (by kernel_rfl) ?_; all_goals (have hc_ := E.cls; (repeat (obtain ⟨c_, f_, hc_⟩ := hc_)); clear hc_)) | (refine start_ (id := 3) (n := 4) (S := fun w' => Cls w' _) (ds := [3]) (bz 4 0) (by kernel_rfl) rfl rfl E.draw.cls (fun hHeld => ?_); replace E := E.draw; refine ta_ 0 (some 16) (bz 4 1) hHeld ?_; refine on_ 1 (some 17) (bz 4 3) (fun K hK => ?_); refine gs_ Tryz.func121 ?_; refine env_call E (of_calls (n := 1) (by omega) (by omega)) ?_; clear E; rintro e wc E ⟨br, Ar, nr, cr, rfl, hw_⟩; replace E := E.wh hw_; clear hw_; refine ⟨_, rfl, ?_⟩; refine hK.out _ _ E.cls (fun hHeld => ?_); clear hK K; refine nm_ (some 17) ?_; refine on_ 2 (some 18) (bz 4 7) (fun K hK => ?_); refine gs_ Tryz.func123 ?_; refine env_call E (add_one HN.out E.getW E.getW (LF.out.fits (by omega)) (ln_one.fits (by omega))) ?_; clear E; rintro e wc E ⟨br, Ar, nr, cr, rfl, hw_⟩; replace E := E.wh hw_; clear hw_; refine ⟨_, rfl, ?_⟩; refine hK.out _ _ E.cls (fun hHeld => ?_); clear hK K; refine nm_ (some 18) ?_; refine la_ 3 (none) (bz 4 15) (fun K hK => ?_); have hc_ := E.cls; (repeat (obtain ⟨c_, f_, hc_⟩ := hc_)); clear hc_; refine sk_ (fun ws hs_ => ?_); replace E := Env.pt2 hs_ E; clear hs_; refine hK.out _ _ ?_; clear hK K; have hc_ := E.cls; (repeat (obtain ⟨c_, f_, hc_⟩ := hc_)); clear hc_; refine done_ (by kernel_rfl) ?_; all_goals (have hc_ := E.cls; (repeat (obtain ⟨c_, f_, hc_⟩ := hc_)); clear hc_)) | (refine start_ (id := 4) (n := 10) (S := fun w' => Cls w' _) (ds := []) (bz 10 0) (by kernel_rfl) rfl rfl E.draw.cls (fun hHeld => ?_); replace E := E.draw; refine pu_ 0 (some 19) (bz 10 1) ?_; refine ta_ 1 (some 20) (bz 10 3) hHeld ?_; refine pu_ 2 (some 21) (bz 10 7) ?_; (first | (refine pu_ 5 (some 24) (bz 10 39) ?_) | (refine po_ 5 (some 24) (bz 10 39) ?_)); (first | (refine ta_ 3 (some 22) (bz 10 47) hHeld ?_) | (refine po_ 3 (some 22) (bz 10 47) ?_)); (first | (refine ta_ 6 (some 25) (bz 10 111) hHeld ?_) | (refine po_ 6 (some 25) (bz 10 111) ?_)); refine on_ 4 (some 23) (bz 10 127) (fun K hK => ?_); (first | (refine off_ (by rfl) ?_; refine hK.out _ _ E.cls (fun hHeld => ?_); clear hK K) | (refine gs_ Tryz.func168 ?_; refine env_call E (rint_calls (z := n) E.getW (LFN.out.fits (by omega))) ?_; clear E; rintro e wc E ⟨br, Ar, nr, cr, br2, Ar2, nr2, cr2, rfl, hw_, hw2_⟩; replace E := (E.wh hw_).wh hw2_; clear hw_ hw2_; refine ⟨_, rfl, ?_⟩; refine hK.out _ _ E.cls (fun hHeld => ?_); clear hK K)); refine nm_ (some 23) ?_; refine on_ 7 (some 26) (bz 10 255) (fun K hK => ?_); (first | (refine off_ (by rfl) ?_; refine hK.out _ _ E.cls (fun hHeld => ?_); clear hK K) | (refine gs_ Tryz.func167 ?_; refine env_call E (qcmp (x := ((n : Int) : Rat)) (y := y) E.getW E.getW E.getW E.getW (lnq_int (LFN.out.mono (by omega)) (by omega)) (LY.out.mono (by omega))) ?_; clear E; rintro e wc E rfl; refine ⟨_, rfl, ?_⟩; refine hK.out _ _ E.cls (fun hHeld => ?_); clear hK K)); refine nm_ (some 26) ?_; (first | (refine pu_ 8 (some 27) (bz 10 511) ?_) | (refine po_ 8 (some 27) (bz 10 511) ?_)); refine pu_ 9 (some 28) (bz 10 1023) ?_; refine done_ (by kernel_rfl) ?_; all_goals (have hc_ := E.cls; (repeat (obtain ⟨c_, f_, hc_⟩ := hc_)); clear hc_)) | (go_at_call 168; refine env_call E (rint_calls (z := n) E.getW (LFN.out.fits (by omega))) ?_; clear E; rintro e wc E ⟨br, Ar, nr, cr, br2, Ar2, nr2, cr2, rfl, hw_, hw2_⟩; replace E := (E.wh hw_).wh hw2_; clear hw_ hw2_; have hc_ := E.cls; (repeat (obtain ⟨c_, f_, hc_⟩ := hc_)); clear hc_))
        refine bodyPost_ret (results_single rfl (.cell _ _ _ (0, 0) _ rfl (by first | exact (E.bxs.at (i := 0) rfl).2.1 | exact (E.bxs.at (i := 1) rfl).2.1 | exact (E.bxs.at (i := 2) rfl).2.1 | exact (E.bxs.at (i := 3) rfl).2.1 | exact (E.bxs.at (i := 4) rfl).2.1 | exact (E.bxs.at (i := 5) rfl).2.1 | exact (E.bxs.at (i := 6) rfl).2.1 | exact (E.bxs.at (i := 7) rfl).2.1 | exact (E.bxs.at (i := 8) rfl).2.1 | exact (E.bxs.at (i := 9) rfl).2.1) Tryz.underlying84 rfl (by kernel_rfl) .nil)) rfl ?_
        exact ⟨E.below, RQ.mk E.getW E.getW⟩
      · have hd : decide (scmp ((n : Int) : Rat) y ≤ 0) = false := decide_eq_false (fun h => d ((scmp_le _ _).1 h))
        have hb : y < ((a.floor + 1 : Int) : Rat) := by rw [← hn]; grind
        have fb : (a.floor : Rat) < y := by grind
        have s1 := sp_less c (Rat.lt_floor_add_one a)
        have s2 := sp_less fb hb
        have pa := rsub_pos c
        have pb := rsub_pos fb
        have hle := rinv_anti pa (show a - (a.floor : Rat) ≤ y - a.floor by grind)
        obtain ⟨q', hq'⟩ := sp_ex m (y - a.floor)⁻¹ (a - a.floor)⁻¹ (by omega) (Rat.inv_pos.2 pb) hle
        obtain rfl : q = a.floor + q'⁻¹ := sp_uniq ha hq (sp_step (floor_nonneg ha) c hay hq')
        have hm1 := hq'.2 _ ⟨Rat.le_refl, fun x hx => by cases hx; exact hle⟩
        have la' : LeM (a - a.floor)⁻¹ M := ⟨by rw [s1.1]; have := la.2; omega, by have := la.2; omega⟩
        have ly' : LeM (y - a.floor)⁻¹ M := ⟨by rw [s2.1]; have := ly.2; omega, by have := ly.2; omega⟩
        have lq' : LeM q' M := ⟨Nat.le_trans hm1.2 ly'.1, Nat.le_trans hm1.1 ly'.2⟩
        have pq : 0 < q' := by have := hq'.1.1; have := Rat.inv_pos.2 pb; grind
        have nq := rnd_inv pq
        have lqi : LeM q'⁻¹ M := ⟨by rw [nq.1]; have := lq'.2; omega, by have := lq'.1; have := nq.2.1; omega⟩
        have NX := Aside0.mk (show Nxt a y q' a.floor from ⟨LA.out, LY.out, LF.out, lq'.ln hM, lqi.ln hM, by have := nq.2.2; omega, by have := rnum_pos pa; omega, by have := rnum_pos pb; omega,
          (lnq_sub LY.out (lnq_int LF.out (by omega))).mono (by omega), (lnq_sub LA.out (lnq_int LF.out (by omega))).mono (by omega), fun W b1 b2 b3 b4 A1 A2 A3 A4 x1 x2 x3 x4 c1 c2 c3 c4 h1 h2 h3 h4 => ih (a := (y - a.floor)⁻¹) (y := (a - a.floor)⁻¹) (by omega) h1 h2 h3 h4 ly' la' (Rat.inv_pos.2 pb) hle hq'⟩)
        clear c d hq ha hay la ly hm ih hM hn hb fb s1 s2 pa pb hle hq' hm1 la' ly' lq' pq nq lqi
        go_enter Tryz.func112, Tryz.ntmps112
        go_wp2_with (first | ((with_reducible first | refine gate_box (by rfl) ?_ | refine gate_alloc (by rfl) ?_); refine bx_ E ?_; clear E; intro gb wb E; have hc_ := E.cls; (repeat (obtain ⟨c_, f_, hc_⟩ := hc_)); clear hc_) | (go_at_call 124; refine env_call E (qfloor E.getW E.getW (LA.out.mono (by omega))) ?_; clear E; rintro e wc E ⟨br, Ar, nr, cr, rfl, hw_⟩; replace E := E.wh hw_; clear hw_; have hc_ := E.cls; (repeat (obtain ⟨c_, f_, hc_⟩ := hc_)); clear hc_) | ((with_reducible refine gate_stored (t := 77) (by rfl) ?_); refine st_ (fun ws hs_ => ?_); replace E := Env.pt2 hs_ E; clear hs_; have hc_ := E.cls; (repeat (obtain ⟨c_, f_, hc_⟩ := hc_)); clear hc_) | ((with_reducible refine gate_stored (t := 84) (by rfl) ?_); refine st_ (fun ws hs_ => ?_); replace E := Env.pt4 hs_ E; clear hs_; have hc_ := E.cls; (repeat (obtain ⟨c_, f_, hc_⟩ := hc_)); clear hc_) | (refine start_ (id := 2) (n := 5) (S := fun w' => Cls w' _) (ds := []) (bz 5 0) (by kernel_rfl) rfl rfl E.draw.cls (fun hHeld => ?_); replace E := E.draw; refine ta_ 0 (some 11) (bz 5 1) hHeld ?_; refine ta_ 2 (some 13) (bz 5 5) hHeld ?_; refine on_ 1 (some 12) (bz 5 7) (fun K hK => ?_); refine gs_ Tryz.func168 ?_; refine env_call E (rint_calls E.getW (LF.out.fits (by omega))) ?_; clear E; rintro e wc E ⟨br, Ar, nr, cr, br2, Ar2, nr2, cr2, rfl, hw_, hw2_⟩; replace E := (E.wh hw_).wh hw2_; clear hw_ hw2_; refine ⟨_, rfl, ?_⟩; refine hK.out _ _ E.cls (fun hHeld => ?_); clear hK K; refine nm_ (some 12) ?_; refine on_ 3 (some 14) (bz 5 15) (fun K hK => ?_); refine gs_ Tryz.func167 ?_; refine env_call E (qcmp (x := (a.floor : Rat)) (y := a) E.getW E.getW E.getW E.getW (lnq_int (LF.out.mono (by omega)) (by omega)) (LA.out.mono (by omega))) ?_; clear E; rintro e wc E rfl; refine ⟨_, rfl, ?_⟩; refine hK.out _ _ E.cls (fun hHeld => ?_); clear hK K; refine nm_ (some 14) ?_; refine pu_ 4 (some 15) (bz 5 31) ?_; refine done_ (by kernel_rfl) ?_; all_goals (have hc_ := E.cls; (repeat (obtain ⟨c_, f_, hc_⟩ := hc_)); clear hc_)) | (refine start_ (id := 3) (n := 4) (S := fun w' => Cls w' _) (ds := [3]) (bz 4 0) (by kernel_rfl) rfl rfl E.draw.cls (fun hHeld => ?_); replace E := E.draw; refine ta_ 0 (some 16) (bz 4 1) hHeld ?_; refine on_ 1 (some 17) (bz 4 3) (fun K hK => ?_); refine gs_ Tryz.func121 ?_; refine env_call E (of_calls (n := 1) (by omega) (by omega)) ?_; clear E; rintro e wc E ⟨br, Ar, nr, cr, rfl, hw_⟩; replace E := E.wh hw_; clear hw_; refine ⟨_, rfl, ?_⟩; refine hK.out _ _ E.cls (fun hHeld => ?_); clear hK K; refine nm_ (some 17) ?_; refine on_ 2 (some 18) (bz 4 7) (fun K hK => ?_); refine gs_ Tryz.func123 ?_; refine env_call E (add_one HN.out E.getW E.getW (LF.out.fits (by omega)) (ln_one.fits (by omega))) ?_; clear E; rintro e wc E ⟨br, Ar, nr, cr, rfl, hw_⟩; replace E := E.wh hw_; clear hw_; refine ⟨_, rfl, ?_⟩; refine hK.out _ _ E.cls (fun hHeld => ?_); clear hK K; refine nm_ (some 18) ?_; refine la_ 3 (none) (bz 4 15) (fun K hK => ?_); have hc_ := E.cls; (repeat (obtain ⟨c_, f_, hc_⟩ := hc_)); clear hc_; refine sk_ (fun ws hs_ => ?_); replace E := Env.pt2 hs_ E; clear hs_; refine hK.out _ _ ?_; clear hK K; have hc_ := E.cls; (repeat (obtain ⟨c_, f_, hc_⟩ := hc_)); clear hc_; refine done_ (by kernel_rfl) ?_; all_goals (have hc_ := E.cls; (repeat (obtain ⟨c_, f_, hc_⟩ := hc_)); clear hc_)) | (refine start_ (id := 4) (n := 10) (S := fun w' => Cls w' _) (ds := []) (bz 10 0) (by kernel_rfl) rfl rfl E.draw.cls (fun hHeld => ?_); replace E := E.draw; refine pu_ 0 (some 19) (bz 10 1) ?_; refine ta_ 1 (some 20) (bz 10 3) hHeld ?_; refine pu_ 2 (some 21) (bz 10 7) ?_; (first | (refine pu_ 5 (some 24) (bz 10 39) ?_) | (refine po_ 5 (some 24) (bz 10 39) ?_)); (first | (refine ta_ 3 (some 22) (bz 10 47) hHeld ?_) | (refine po_ 3 (some 22) (bz 10 47) ?_)); (first | (refine ta_ 6 (some 25) (bz 10 111) hHeld ?_) | (refine po_ 6 (some 25) (bz 10 111) ?_)); refine on_ 4 (some 23) (bz 10 127) (fun K hK => ?_); (first | (refine off_ (by rfl) ?_; refine hK.out _ _ E.cls (fun hHeld => ?_); clear hK K) | (refine gs_ Tryz.func168 ?_; refine env_call E (rint_calls (z := n) E.getW (LFN.out.fits (by omega))) ?_; clear E; rintro e wc E ⟨br, Ar, nr, cr, br2, Ar2, nr2, cr2, rfl, hw_, hw2_⟩; replace E := (E.wh hw_).wh hw2_; clear hw_ hw2_; refine ⟨_, rfl, ?_⟩; refine hK.out _ _ E.cls (fun hHeld => ?_); clear hK K)); refine nm_ (some 23) ?_; refine on_ 7 (some 26) (bz 10 255) (fun K hK => ?_); (first | (refine off_ (by rfl) ?_; refine hK.out _ _ E.cls (fun hHeld => ?_); clear hK K) | (refine gs_ Tryz.func167 ?_; refine env_call E (qcmp (x := ((n : Int) : Rat)) (y := y) E.getW E.getW E.getW E.getW (lnq_int (LFN.out.mono (by omega)) (by omega)) (LY.out.mono (by omega))) ?_; clear E; rintro e wc E rfl; refine ⟨_, rfl, ?_⟩; refine hK.out _ _ E.cls (fun hHeld => ?_); clear hK K)); refine nm_ (some 26) ?_; (first | (refine pu_ 8 (some 27) (bz 10 511) ?_) | (refine po_ 8 (some 27) (bz 10 511) ?_)); refine pu_ 9 (some 28) (bz 10 1023) ?_; refine done_ (by kernel_rfl) ?_; all_goals (have hc_ := E.cls; (repeat (obtain ⟨c_, f_, hc_⟩ := hc_)); clear hc_)) | (refine start_ (id := 6) (n := 6) (S := fun w' => Cls w' _) (ds := [5]) (bz 6 0) (by kernel_rfl) rfl rfl E.draw.cls (fun hHeld => ?_); replace E := E.draw; refine ta_ 0 (some 31) (bz 6 1) hHeld ?_; (repeat (any_goals (first | ((with_reducible refine at_ (bz 6 1) ?_); refine two_ (i := 1) (j := 4) (Ni := some 32) (Nj := some 6) (bz 6 3) (bz 6 17) rfl rfl rfl rfl (by kernel_rfl) (by decide) (by decide) (fun K hK => ?_) (fun K hK => ?_); (focus (refine gs_ Tryz.func121 ?_; refine env_call E (of_calls (n := 1) (by omega) (by omega)) ?_; clear E; rintro e wc E ⟨br, Ar, nr, cr, rfl, hw_⟩; replace E := E.wh hw_; clear hw_; refine ⟨_, rfl, ?_⟩; refine hK.out _ _ E.cls (fun hHeld => ?_); clear hK K; refine nm_ (some 32) ?_)); rotate_left; (focus (refine value_env E (by rfl) rfl ?_; clear E; apply Exists.intro; apply Exists.intro; refine ⟨?_, ?_, fun gb wb E => ?_⟩; (· (first | rfl | (go_simp; done) | (go_simp; rfl))); (· rfl); refine hK.out _ _ (E.clsD 1) (fun hHeld => ?_); clear hK K; refine nm_ (some 6) ?_)); rotate_left) | ((with_reducible refine at_ (bz 6 3) ?_); refine two_ (i := 2) (j := 4) (Ni := some 33) (Nj := some 6) (bz 6 7) (bz 6 19) rfl rfl rfl rfl (by kernel_rfl) (by decide) (by decide) (fun K hK => ?_) (fun K hK => ?_); (focus (refine gs_ Tryz.func169 ?_; refine env_call E (sub_one HN.out E.getW E.getW (LFN.out.fits (by omega)) (ln_one.fits (by omega))) ?_; clear E; rintro e wc E ⟨br, Ar, nr, cr, rfl, hw_⟩; replace E := E.wh hw_; clear hw_; refine ⟨_, rfl, ?_⟩; refine hK.out _ _ E.cls (fun hHeld => ?_); clear hK K; refine nm_ (some 33) ?_)); rotate_left; (focus (refine value_env E (by rfl) rfl ?_; clear E; apply Exists.intro; apply Exists.intro; refine ⟨?_, ?_, fun gb wb E => ?_⟩; (· (first | rfl | (go_simp; done) | (go_simp; rfl))); (· rfl); refine hK.out _ _ (E.clsD 1) (fun hHeld => ?_); clear hK K; refine nm_ (some 6) ?_)); rotate_left) | ((with_reducible refine at_ (bz 6 17) ?_); refine on_ 1 (some 32) (bz 6 19) (fun K hK => ?_); refine gs_ Tryz.func121 ?_; refine env_call E (of_calls (n := 1) (by omega) (by omega)) ?_; clear E; rintro e wc E ⟨br, Ar, nr, cr, rfl, hw_⟩; replace E := E.wh hw_; clear hw_; refine ⟨_, rfl, ?_⟩; refine hK.out _ _ (E.clsD 1) (fun hHeld => ?_); clear hK K; refine nm_ (some 32) ?_) | ((with_reducible refine at_ (bz 6 7) ?_); refine two_ (i := 3) (j := 4) (Ni := some 34) (Nj := some 6) (bz 6 15) (bz 6 23) rfl rfl rfl rfl (by kernel_rfl) (by decide) (by decide) (fun K hK => ?_) (fun K hK => ?_); (focus (refine gs_ Tryz.func168 ?_; refine env_call E (rint_calls (z := a.floor) E.getW (LF.out.fits (by omega))) ?_; clear E; rintro e wc E ⟨br, Ar, nr, cr, br2, Ar2, nr2, cr2, rfl, hw_, hw2_⟩; replace E := (E.wh hw_).wh hw2_; clear hw_ hw2_; refine ⟨_, rfl, ?_⟩; refine hK.out _ _ E.cls (fun hHeld => ?_); clear hK K; refine nm_ (some 34) ?_)); rotate_left; (focus (refine value_env E (by rfl) rfl ?_; clear E; apply Exists.intro; apply Exists.intro; refine ⟨?_, ?_, fun gb wb E => ?_⟩; (· (first | rfl | (go_simp; done) | (go_simp; rfl))); (· rfl); refine hK.out _ _ (E.clsD 1) (fun hHeld => ?_); clear hK K; refine nm_ (some 6) ?_)); rotate_left) | ((with_reducible refine at_ (bz 6 19) ?_); refine on_ 2 (some 33) (bz 6 23) (fun K hK => ?_); refine gs_ Tryz.func169 ?_; refine env_call E (sub_one HN.out E.getW E.getW (LFN.out.fits (by omega)) (ln_one.fits (by omega))) ?_; clear E; rintro e wc E ⟨br, Ar, nr, cr, rfl, hw_⟩; replace E := E.wh hw_; clear hw_; refine ⟨_, rfl, ?_⟩; refine hK.out _ _ (E.clsD 1) (fun hHeld => ?_); clear hK K; refine nm_ (some 33) ?_) | ((with_reducible refine at_ (bz 6 15) ?_); refine on_ 4 (some 6) (bz 6 31) (fun K hK => ?_); refine value_env E (by rfl) rfl ?_; clear E; apply Exists.intro; apply Exists.intro; refine ⟨?_, ?_, fun gb wb E => ?_⟩; (· (first | rfl | (go_simp; done) | (go_simp; rfl))); (· rfl); refine hK.out _ _ (E.clsD 1) (fun hHeld => ?_); clear hK K; refine nm_ (some 6) ?_) | ((with_reducible refine at_ (bz 6 23) ?_); refine on_ 3 (some 34) (bz 6 31) (fun K hK => ?_); refine gs_ Tryz.func168 ?_; refine env_call E (rint_calls (z := a.floor) E.getW (LF.out.fits (by omega))) ?_; clear E; rintro e wc E ⟨br, Ar, nr, cr, br2, Ar2, nr2, cr2, rfl, hw_, hw2_⟩; replace E := (E.wh hw_).wh hw2_; clear hw_ hw2_; refine ⟨_, rfl, ?_⟩; refine hK.out _ _ (E.clsD 1) (fun hHeld => ?_); clear hK K; refine nm_ (some 34) ?_) | ((with_reducible refine at_ (bz 6 31) ?_); refine la_ 5 (none) (bz 6 63) (fun K hK => ?_); have hc_ := E.cls; (repeat (obtain ⟨c_, f_, hc_⟩ := hc_)); clear hc_; refine sk_ (fun ws hs_ => ?_); replace E := Env.pt4 hs_ E; clear hs_; refine hK.out _ _ ?_; clear hK K; have hc_ := E.cls; (repeat (obtain ⟨c_, f_, hc_⟩ := hc_)); clear hc_) | ((with_reducible refine at_ (bz 6 63) ?_); refine done_ (by kernel_rfl) ?_)))); all_goals (have hc_ := E.cls; (repeat (obtain ⟨c_, f_, hc_⟩ := hc_)); clear hc_)) | (go_at_call 116; refine env_call E (frac_one) ?_; clear E; rintro e wc E ⟨br, Ar, nr, cr, br2, Ar2, nr2, cr2, rfl, hw_, hw2_⟩; replace E := (E.wh hw_).wh hw2_; clear hw_ hw2_; have hc_ := E.cls; (repeat (obtain ⟨c_, f_, hc_⟩ := hc_)); clear hc_) | (refine simp_tail (a := a) (y := y) (q' := q') (f := a.floor) NX rfl (by assumption) E.bare E.getW E.getW E.getW E.getW E.getW E.getW E.getW E.getW))
    · have hc : decide (scmp a.floor a < 0) = false := decide_eq_false (fun h => c ((scmp_lt _ _).1 h))
      have e : (a.floor : Rat) = a := by have := floor_le a; grind
      have hd : decide (scmp (a.floor : Rat) y ≤ 0) = true := decide_eq_true ((scmp_le _ _).2 (by rw [e]; exact hay))
      obtain rfl : q = (a.floor : Rat) := sp_uniq ha hq (sp_floor ha c (fun x hx => by cases hx; exact hay))
      clear c hq ha hay la ly hm ih hM e
      go_enter Tryz.func112, Tryz.ntmps112
      go_wp2_with (first | ((with_reducible first | refine gate_box (by rfl) ?_ | refine gate_alloc (by rfl) ?_); refine bx_ E ?_; clear E; intro gb wb E; have hc_ := E.cls; (repeat (obtain ⟨c_, f_, hc_⟩ := hc_)); clear hc_) | (go_at_call 124; refine env_call E (qfloor E.getW E.getW (LA.out.mono (by omega))) ?_; clear E; rintro e wc E ⟨br, Ar, nr, cr, rfl, hw_⟩; replace E := E.wh hw_; clear hw_; have hc_ := E.cls; (repeat (obtain ⟨c_, f_, hc_⟩ := hc_)); clear hc_) | ((with_reducible refine gate_stored (t := 77) (by rfl) ?_); refine st_ (fun ws hs_ => ?_); replace E := Env.pt2 hs_ E; clear hs_; have hc_ := E.cls; (repeat (obtain ⟨c_, f_, hc_⟩ := hc_)); clear hc_) | ((with_reducible refine gate_stored (t := 84) (by rfl) ?_); refine st_ (fun ws hs_ => ?_); replace E := Env.pt4 hs_ E; clear hs_; have hc_ := E.cls; (repeat (obtain ⟨c_, f_, hc_⟩ := hc_)); clear hc_) | (refine start_ (id := 2) (n := 5) (S := fun w' => Cls w' _) (ds := []) (bz 5 0) (by kernel_rfl) rfl rfl E.draw.cls (fun hHeld => ?_); replace E := E.draw; refine ta_ 0 (some 11) (bz 5 1) hHeld ?_; refine ta_ 2 (some 13) (bz 5 5) hHeld ?_; refine on_ 1 (some 12) (bz 5 7) (fun K hK => ?_); refine gs_ Tryz.func168 ?_; refine env_call E (rint_calls E.getW (LF.out.fits (by omega))) ?_; clear E; rintro e wc E ⟨br, Ar, nr, cr, br2, Ar2, nr2, cr2, rfl, hw_, hw2_⟩; replace E := (E.wh hw_).wh hw2_; clear hw_ hw2_; refine ⟨_, rfl, ?_⟩; refine hK.out _ _ E.cls (fun hHeld => ?_); clear hK K; refine nm_ (some 12) ?_; refine on_ 3 (some 14) (bz 5 15) (fun K hK => ?_); refine gs_ Tryz.func167 ?_; refine env_call E (qcmp (x := (a.floor : Rat)) (y := a) E.getW E.getW E.getW E.getW (lnq_int (LF.out.mono (by omega)) (by omega)) (LA.out.mono (by omega))) ?_; clear E; rintro e wc E rfl; refine ⟨_, rfl, ?_⟩; refine hK.out _ _ E.cls (fun hHeld => ?_); clear hK K; refine nm_ (some 14) ?_; refine pu_ 4 (some 15) (bz 5 31) ?_; refine done_ (by kernel_rfl) ?_; all_goals (have hc_ := E.cls; (repeat (obtain ⟨c_, f_, hc_⟩ := hc_)); clear hc_)) | (refine start_ (id := 4) (n := 10) (S := fun w' => Cls w' _) (ds := []) (bz 10 0) (by kernel_rfl) rfl rfl E.draw.cls (fun hHeld => ?_); replace E := E.draw; refine pu_ 0 (some 19) (bz 10 1) ?_; refine ta_ 1 (some 20) (bz 10 3) hHeld ?_; refine pu_ 2 (some 21) (bz 10 7) ?_; (first | (refine pu_ 5 (some 24) (bz 10 39) ?_) | (refine po_ 5 (some 24) (bz 10 39) ?_)); (first | (refine ta_ 3 (some 22) (bz 10 47) hHeld ?_) | (refine po_ 3 (some 22) (bz 10 47) ?_)); (first | (refine ta_ 6 (some 25) (bz 10 111) hHeld ?_) | (refine po_ 6 (some 25) (bz 10 111) ?_)); refine on_ 4 (some 23) (bz 10 127) (fun K hK => ?_); (first | (refine off_ (by rfl) ?_; refine hK.out _ _ E.cls (fun hHeld => ?_); clear hK K) | (refine gs_ Tryz.func168 ?_; refine env_call E (rint_calls (z := a.floor) E.getW (LF.out.fits (by omega))) ?_; clear E; rintro e wc E ⟨br, Ar, nr, cr, br2, Ar2, nr2, cr2, rfl, hw_, hw2_⟩; replace E := (E.wh hw_).wh hw2_; clear hw_ hw2_; refine ⟨_, rfl, ?_⟩; refine hK.out _ _ E.cls (fun hHeld => ?_); clear hK K)); refine nm_ (some 23) ?_; refine on_ 7 (some 26) (bz 10 255) (fun K hK => ?_); (first | (refine off_ (by rfl) ?_; refine hK.out _ _ E.cls (fun hHeld => ?_); clear hK K) | (refine gs_ Tryz.func167 ?_; refine env_call E (qcmp (x := ((a.floor : Int) : Rat)) (y := y) E.getW E.getW E.getW E.getW (lnq_int (LF.out.mono (by omega)) (by omega)) (LY.out.mono (by omega))) ?_; clear E; rintro e wc E rfl; refine ⟨_, rfl, ?_⟩; refine hK.out _ _ E.cls (fun hHeld => ?_); clear hK K)); refine nm_ (some 26) ?_; (first | (refine pu_ 8 (some 27) (bz 10 511) ?_) | (refine po_ 8 (some 27) (bz 10 511) ?_)); refine pu_ 9 (some 28) (bz 10 1023) ?_; refine done_ (by kernel_rfl) ?_; all_goals (have hc_ := E.cls; (repeat (obtain ⟨c_, f_, hc_⟩ := hc_)); clear hc_)) | (go_at_call 168; refine env_call E (rint_calls (z := a.floor) E.getW (LF.out.fits (by omega))) ?_; clear E; rintro e wc E ⟨br, Ar, nr, cr, br2, Ar2, nr2, cr2, rfl, hw_, hw2_⟩; replace E := (E.wh hw_).wh hw2_; clear hw_ hw2_; have hc_ := E.cls; (repeat (obtain ⟨c_, f_, hc_⟩ := hc_)); clear hc_))
      refine bodyPost_ret (results_single rfl (.cell _ _ _ (0, 0) _ rfl (by first | exact (E.bxs.at (i := 0) rfl).2.1 | exact (E.bxs.at (i := 1) rfl).2.1 | exact (E.bxs.at (i := 2) rfl).2.1 | exact (E.bxs.at (i := 3) rfl).2.1 | exact (E.bxs.at (i := 4) rfl).2.1 | exact (E.bxs.at (i := 5) rfl).2.1 | exact (E.bxs.at (i := 6) rfl).2.1 | exact (E.bxs.at (i := 7) rfl).2.1 | exact (E.bxs.at (i := 8) rfl).2.1 | exact (E.bxs.at (i := 9) rfl).2.1) Tryz.underlying84 rfl (by kernel_rfl) .nil)) rfl ?_
      exact ⟨E.below, RQ.mk E.getW E.getW⟩
end Go.Proofs.YtfmcgammhfdfnaaGreatDoor.PRatio
