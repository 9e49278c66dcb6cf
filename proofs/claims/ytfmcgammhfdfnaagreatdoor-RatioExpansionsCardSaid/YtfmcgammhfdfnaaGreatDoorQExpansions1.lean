/- Go functions as plain Lean functions, each with a proof that the Go code computes just that, and facts on them; conditions: those that each theorem states. -/
import Derived.Test.YtfmcgammhfdfnaaGreatDoorVExpansions1
import Derived.Test.YtfmcgammhfdfnaaGreatDoorProg
import Derived.WalkMore
import Derived.Below
import Derived.Deep.Draws
import Derived.Deep.AppendLies
import Derived.Maps.AppendAt
import Derived.OwnWalk
import Derived.Laws.BytesArg
import Derived.Laws.MakeOwn
import Derived.Laws.OwnMore
import Derived.Deep.OwnRows
import Derived.Tactics
import Derived.Lib.ConvBytes
import Derived.Laws.Slices
import Derived.WalkKit
import Derived.KernelRfl
import Derived.RowKit3
import Derived.Deep.LoopGhost
import Derived.Deep.QuietTactic
import Derived.BigQuiet
import Derived.WideLaws
import Derived.Deep.DeepCutAuto
import Derived.Deep.CutBlock
import Derived.Deep.RegionHeld3
import Derived.Laws.Rows
import Derived.Lib.AppendStr
import Derived.ArgAppend
import Derived.Laws.IdiomCopy
import Derived.OrdersHeld
import Derived.Laws.BitsLemmas
import Derived.RowKit
import Derived.Laws.Append
namespace Go.Proofs.YtfmcgammhfdfnaaGreatDoor.PRatio
theorem bw_ {P : Prop} (h : P := by repeat (first | (with_reducible first | exact HB.out | apply below_alloc | apply pw_below_drewN | apply below_drew1) | exact HB.out)) : P := h
theorem ag_ {P : Prop} (h : P := by (try simp only [List.map_toArray, List.map_cons, List.map_nil]); first | done | rfl | (simp only [List.length_drop, List.length_take]; rfl)) : P := h
theorem ag2_ {P : Prop} (h : P := by (try simp only [List.map_toArray, List.map_cons, List.map_nil]); first | done | rfl) : P := h
theorem dr_ {P : Prop} (h : P := by repeat (first | exact Drawn0.refl _ | apply Drawn0.step)) : P := h
theorem sd_ {P : Prop} (h : P := by first | rfl | (simp; done) | (simp [*]; done)) : P := h
theorem as_ {P : Prop} (h : P := by first | (with_reducible assumption) | assumption) : P := h
theorem cs_ {P Q : Prop} (x : Q) (h : Q → P := by intro x_; repeat (first | exact x_ | (with_reducible refine Kd.C_alloc ?_ _) | (with_reducible refine Kd.C_drewN ?_ _) | (with_reducible refine Kd.C_drew ?_))) : P := h x
theorem rRa_ {P Q : Prop} (x : Q) (h : Q → P := by intro x_; (with_reducible repeat (first | apply Kd.R_alloc | apply Kd.R_drewN | apply Kd.R_drew)); exact x_) : P := h x
theorem rSa_ {P Q : Prop} (x : Q) (h : Q → P := by intro x_; (with_reducible repeat (first | apply Kd.S_alloc | apply Kd.S_drewN | apply Kd.S_drew)); exact x_) : P := h x
theorem rNa_ {P Q : Prop} (x : Q) (h : Q → P := by intro x_; (with_reducible repeat (first | apply Kd.N_alloc | apply Kd.N_drewN | apply Kd.N_drew)); exact x_) : P := h x
theorem rQa_ {P Q : Prop} (x : Q) (h : Q → P := by intro x_; (with_reducible repeat (first | apply Kd.Q_alloc | apply Kd.Q_drewN | apply Kd.Q_drew)); exact x_) : P := h x
theorem rVa_ {P Q : Prop} (x : Q) (h : Q → P := by intro x_; (with_reducible repeat (first | apply Kd.V_alloc | apply Kd.V_drewN | apply Kd.V_drew)); exact x_) : P := h x
open Go.RowKit Go.Proofs.YtfmcgammhfdfnaaGreatDoorW.PrintWords Go.Proofs.YtfmcgammhfdfnaaGreatDoorW.PrintLast Go.Proofs.YtfmcgammhfdfnaaGreatDoorW.PrintMore
section
variable {P : Program} {ops : Array Oper} {Q : Exit → Act → World → Prop} {md : Region.Mode} {S : World → Prop} {ds : List Nat} {fuel : Nat} {l : Array Bool} {a : Act} {w : World}
theorem pq_ (i : Nat) (N : Option Tmp) (l' : Array Bool) {T : Bool × List (List Nat × List Nat)} (hT : rtab md ops = T) {oi : Oper} {v : Value} {a' : Act} (h : wpAnyLast P md ops Q S ds fuel l' a' w) (hi : ops[i]? = some oi := by exact rfl) (hN : oi.dst = N := by exact rfl) (hc : anyT T l.toList l'.toList i = true := by kernel_rfl)
    (hQ : ∀ c a w, Q (.panic c) (a.put oi.dst v) w → Q (.panic c) a w := by exact fun _ _ _ h => h) (hg : Region.wanted oi (yielded ops a.tmps) = true := by rfl) (hy : ∀ w, (execOp a.eval oi).run P w = .ok (.value v) w := by intro w'; go_simp; with_reducible rfl)
    (ha : a.put N v = a' := by simp only [Act.put, List.setIfInBounds_toArray, List.set_cons_zero, List.set_cons_succ, i64_w, i32_w]; rfl) : wpAnyLast P md ops Q S ds (fuel + 1) l a w := pure_ l' hi hN (any_of hT hc) hQ (Or.inl ⟨hg, hy⟩) ha h
end
end Go.Proofs.YtfmcgammhfdfnaaGreatDoor.PRatio
namespace Go.Proofs.YtfmcgammhfdfnaaGreatDoorW.PrintWords
open Go.RowKit
section
variable {P : Program} {ops : Array Oper} {o : Oper} {rest : List Oper} {a : Act} {Q : Exit → Act → World → Prop} {W : World}
namespace Kd
variable {α : Type}
theorem R_makecap (d : Kd α) {w0 W : World} (base e : Nat) (hgd : o.guard = none) {N : Tmp} (_hd : o.dst = some N) (t : TypeId) (x y : Operand) (ho : o.op = .makeSlice t x y) (n : Int) (hx : a.eval x = .int .i64 0) (hy : a.eval y = .int .i64 n)
  (ht : P.underlying t = some (.slice e)) (z : Value) (bytes : Nat) (hinfo : (P.info? e).map (fun i => (i.zero, i.size, i.bytes)) = some (some z, d.sz, bytes)) (_hz : z.cells.size = d.sz) (_hs0 : 0 < d.sz) (hb0 : 0 < bytes)
  {ok : Nat → Prop} (hfresh : ok W.heap.size) (h0 : 0 ≤ n) (hl : n.toNat * bytes ≤ 281474976710656) (HB : Below base w0 W) (hbase : base ≤ W.heap.size)
  (h : ∀ v1 w1, d.R e w1 base ok v1 ([] : List α) → Below base w0 w1 → W.grownBy w1 none → (∃ b, v1.ownBlock = some b ∧ W.heap.size ≤ b) → wpList P ops Q rest (a.put o.dst v1) w1) : wpList P ops Q (o :: rest) a W := by
 obtain ⟨m, rfl⟩ := Int.eq_ofNat_of_zero_le h0
 simp only [Int.toNat_natCast] at hl
 obtain ⟨i0, hi, hzz⟩ := Option.map_eq_some_iff.1 hinfo
 simp only [Prod.mk.injEq] at hzz
 obtain ⟨hz0, hz1, hz2⟩ := hzz
 have hm : m ≤ 281474976710656 := Nat.le_trans (Nat.le_mul_of_pos_right _ hb0) hl
 have hr := run_make (P := P) W t e i0 z ht hi hz0 .i64 .i64 0 (m : Int) (by omega) (by omega)
  (by
   have h3 : ((i0.bytes * m : Nat) : Int) ≤ 281474976710656 := by rw [hz2, Nat.mul_comm]; omega
   rwa [Int.natCast_mul] at h3) (by omega)
 simp only [Int.toNat_zero, Int.toNat_natCast] at hr
 have hown := World.ownsRow_made (base := base) (e := e) (size := i0.size) W (madeCells z.cells (m * i0.size)) m hbase (by simp only [maxLen]; omega) (size_madeCells _ _)
 refine event_run (v := .slice (some ⟨W.heap.size, 0, none⟩) 0 m) (w1 := W.alloc (.cells (madeCells z.cells (m * i0.size)) e)) hgd ?_ (h _ _ ⟨fun k hk => ?_, [], ?_, Reps.none _ _⟩ (HB.alloc hbase _) (World.grownBy_alloc W _ none) ⟨W.heap.size, by simp [Value.ownBlock], Nat.le_refl _⟩)
 ·simp [execOp, ho, hx, hy, hr]
 ·have : W.heap.size = k := by simpa [Value.ownBlock] using hk
  subst this
  exact hfresh
 ·rw [← hz1]; exact hown
end Kd
end
end Go.Proofs.YtfmcgammhfdfnaaGreatDoorW.PrintWords
namespace Go.Proofs.YtfmcgammhfdfnaaGreatDoor.PRatio
open Go.RowKit Go.Proofs.YtfmcgammhfdfnaaGreatDoorW.PrintWords
set_option linter.unusedVariables false
set_option linter.unusedSimpArgs false
theorem wrap_id {a : Int} (h0 : -9223372036854775808 ≤ a) (h1 : a ≤ 9223372036854775807) : wrap64 a = a := by unfold wrap64; omega
theorem u64_id {a : Int} (h0 : 0 ≤ a) (h1 : a ≤ 18446744073709551615) : IntKind.u64.wrap a = a := IntWalk.u64_in a ⟨h0, h1⟩
theorem ev_bind {α β : Type} {g : Nat → Option α} {f : Nat → α → Option β} {a : α} {r : β} (h : Ev g a) : Ev (fun n => (g n).bind (f n)) r ↔ Ev (fun n => f n a) r := by
 refine ⟨fun hb => ?_, fun hf => Ev.bind h hf⟩
 obtain ⟨K, h⟩ := h
 obtain ⟨K', hb⟩ := hb
 refine ⟨max K K', fun n hn => ?_⟩
 have h2 : (g n).bind (f n) = some r := hb n (by omega)
 rw [h n (by omega)] at h2
 exact h2
theorem ev_succ {α : Type} {g : Nat → Option α} {r : α} (h : Ev (fun k => g (k + 1)) r) : Ev g r := Ev.step (fun _ => rfl) h
def val : List Int → Int
 |[] => 0
 |x :: xs => x + 1000000000 * val xs
def Lim (l : List Int) : Prop := ∀ x ∈ l, 0 ≤ x ∧ x < 1000000000
def Can (l : List Int) : Prop := Lim l ∧ ∀ x, l.getLast? = some x → x ≠ 0
theorem Lim.nil : Lim [] := fun x h => by cases h
theorem Can.nil : Can [] := ⟨Lim.nil, fun x h => by simp at h⟩
theorem Lim.cons {x : Int} {l : List Int} (h0 : 0 ≤ x) (h1 : x < 1000000000) (h : Lim l) : Lim (x :: l) := fun y hy => by
 rcases List.mem_cons.1 hy with rfl | hy
 ·exact ⟨h0, h1⟩
 ·exact h y hy
theorem Lim.tail {x : Int} {l : List Int} (h : Lim (x :: l)) : Lim l := fun y hy => h y (List.mem_cons_of_mem _ hy)
theorem Lim.head {x : Int} {l : List Int} (h : Lim (x :: l)) : 0 ≤ x ∧ x < 1000000000 := h x List.mem_cons_self
theorem Lim.append {a b : List Int} (ha : Lim a) (hb : Lim b) : Lim (a ++ b) := fun y hy => by
 rcases List.mem_append.1 hy with h | h
 ·exact ha y h
 ·exact hb y h
theorem Lim.left {a b : List Int} (h : Lim (a ++ b)) : Lim a := fun y hy => h y (List.mem_append_left _ hy)
theorem Lim.take {l : List Int} (h : Lim l) (n : Nat) : Lim (l.take n) := fun y hy => h y (List.take_subset _ _ hy)
theorem Lim.drop {l : List Int} (h : Lim l) (n : Nat) : Lim (l.drop n) := fun y hy => h y (List.drop_subset _ _ hy)
theorem Lim.rd {l : List Int} (h : Lim l) (i : Nat) (hi : i < l.length) : 0 ≤ rd l (i : Int) ∧ rd l (i : Int) < 1000000000 := by
 have e : Go.Proofs.YtfmcgammhfdfnaaGreatDoorW.PrintWords.rd l (i : Int) = l[i] := by
  unfold Go.Proofs.YtfmcgammhfdfnaaGreatDoorW.PrintWords.rd
  simp [hi]
 rw [e]
 exact h _ (List.getElem_mem _)
theorem drop_cons (a : List Int) (i : Nat) (h : i < a.length) : a.drop i = rd a (i : Int) :: a.drop (i + 1) := by
 rw [List.drop_eq_getElem_cons h]
 simp [rd, h]
theorem take_snoc (a : List Int) (i : Nat) (h : i < a.length) : a.take (i + 1) = a.take i ++ [rd a (i : Int)] := by
 rw [List.take_succ_eq_append_getElem h]
 simp [rd, h]
theorem val_append : ∀ a b : List Int, val (a ++ b) = val a + 1000000000 ^ a.length * val b
 |[], b => by simp [val]
 |x :: xs, b => by
  rw [List.cons_append, val, val_append xs b, val, List.length_cons, Int.pow_succ]
  grind
theorem val_nonneg : ∀ l, Lim l → 0 ≤ val l
 |[], _ => by simp [val]
 |x :: xs, h => by
  have := val_nonneg xs h.tail
  have := h.head
  rw [val]
  omega
theorem pow_pos (n : Nat) : (0 : Int) < 1000000000 ^ n := Int.pow_pos (by decide)
theorem val_lt : ∀ l, Lim l → val l < 1000000000 ^ l.length
 |[], _ => by simp [val]
 |x :: xs, h => by
  have h1 := val_lt xs h.tail
  have h2 := h.head
  rw [val, List.length_cons, Int.pow_succ]
  omega
theorem val_zeros (n : Nat) : val (List.replicate n 0) = 0 := by
 induction n with
 |zero => rfl
 |succ n ih => rw [List.replicate_succ, val, ih]; rfl
theorem Lim.zeros (n : Nat) : Lim (List.replicate n 0) := fun x hx => by
 rw [List.eq_of_mem_replicate hx]
 omega
def tr : List Int → List Int
 |[] => []
 |x :: xs => match tr xs with
  |[] => if x = 0 then [] else [x]
  |y :: ys => x :: y :: ys
theorem tr_val : ∀ l, val (tr l) = val l
 |[] => rfl
 |x :: xs => by
  have ih := tr_val xs
  unfold tr
  split
  ·rename_i e
   rw [e] at ih
   split
   ·subst_vars; simp [val] at ih ⊢; omega
   ·simp [val] at ih ⊢; omega
  ·rename_i y ys e
   rw [e] at ih
   rw [val, ih, ← val]
theorem tr_sub : ∀ l, ∀ x ∈ tr l, x ∈ l
 |[], x, h => h
 |a :: xs, x, h => by
  have ih := tr_sub xs x
  unfold tr at h
  split at h
  ·split at h
   ·simp at h
   ·simp at h; simp [h]
  ·rename_i y ys e
   rw [e] at ih
   rcases List.mem_cons.1 h with h | h
   ·simp [h]
   ·exact List.mem_cons_of_mem _ (ih h)
theorem tr_len : ∀ l, (tr l).length ≤ l.length
 |[] => by simp [tr]
 |x :: xs => by
  have ih := tr_len xs
  unfold tr
  split
  ·split <;> simp
  ·rename_i y ys e
   rw [e] at ih
   simpa using ih
theorem tr_can : ∀ l, Lim l → Can (tr l)
 |[], _ => Can.nil
 |x :: xs, h => by
  have ih := tr_can xs h.tail
  refine ⟨fun y hy => h y (tr_sub _ y hy), ?_⟩
  unfold tr
  split
  ·split
   ·intro y hy; simp at hy
   ·rename_i hx
    intro y hy
    simp at hy
    subst hy
    exact hx
  ·rename_i y ys e
   rw [e] at ih
   intro z hz
   rw [List.getLast?_cons_cons] at hz
   exact ih.2 z hz
theorem tr_same : ∀ l, Can l → tr l = l
 |[], _ => rfl
 |[x], h => by
  have := h.2 x (by simp)
  simp [tr, this]
 |x :: y :: ys, h => by
  have ih := tr_same (y :: ys) ⟨h.1.tail, fun z hz => h.2 z (by rw [List.getLast?_cons_cons]; exact hz)⟩
  rw [tr, ih]
theorem can_pos : ∀ l, Can l → l ≠ [] → 0 < val l
 |[], _, h => absurd rfl h
 |[x], h, _ => by
  have h1 := h.1.head
  have h2 := h.2 x (by simp)
  simp [val]
  omega
 |x :: y :: ys, h, _ => by
  have ih := can_pos (y :: ys) ⟨h.1.tail, fun z hz => h.2 z (by rw [List.getLast?_cons_cons]; exact hz)⟩ (by simp)
  have h1 := h.1.head
  rw [val]
  omega
theorem can_eq : ∀ a b, Can a → Can b → val a = val b → a = b
 |[], [], _, _, _ => rfl
 |[], y :: ys, _, hb, h => by
  exfalso
  have := can_pos (y :: ys) hb (by simp)
  simp [val] at h this
  omega
 |x :: xs, [], ha, _, h => by
  exfalso
  have := can_pos (x :: xs) ha (by simp)
  simp [val] at h this
  omega
 |x :: xs, y :: ys, ha, hb, h => by
  have h1 := ha.1.head
  have h2 := hb.1.head
  rw [val, val] at h
  have e1 : x = y := by omega
  have e2 : val xs = val ys := by omega
  have ca : Can xs := ⟨ha.1.tail, fun z hz => by
   cases xs with
   |nil => simp at hz
   |cons a as_ => exact ha.2 z (by rw [List.getLast?_cons_cons]; exact hz)⟩
  have cb : Can ys := ⟨hb.1.tail, fun z hz => by
   cases ys with
   |nil => simp at hz
   |cons a as_ => exact hb.2 z (by rw [List.getLast?_cons_cons]; exact hz)⟩
  rw [e1, can_eq xs ys ca cb e2]
theorem Can.tail {x : Int} {xs : List Int} (h : Can (x :: xs)) : Can xs := ⟨h.1.tail, fun z hz => by
 cases xs with
 |nil => simp at hz
 |cons a as_ => exact h.2 z (by rw [List.getLast?_cons_cons]; exact hz)⟩
theorem can_low : ∀ l, Can l → l ≠ [] → 1000000000 ^ (l.length - 1) ≤ val l
 |[], _, h => absurd rfl h
 |[x], h, _ => by
  have h1 := h.1.head
  have h2 := h.2 x (by simp)
  simp [val]
  omega
 |x :: y :: ys, h, _ => by
  have ih := can_low (y :: ys) h.tail (by simp)
  have h1 := h.1.head
  rw [val]
  simp only [List.length_cons, Nat.add_sub_cancel] at ih ⊢
  rw [Int.pow_succ]
  omega
theorem pow_mono {m n : Nat} (h : m ≤ n) : (1000000000 : Int) ^ m ≤ 1000000000 ^ n := by
 obtain ⟨k, rfl⟩ := Nat.exists_eq_add_of_le h
 rw [Int.pow_add]
 have h1 := pow_pos m
 have h2 := pow_pos k
 have h3 : (1 : Int) ≤ 1000000000 ^ k := h2
 have := Int.mul_le_mul_of_nonneg_left h3 (Int.le_of_lt h1)
 omega
theorem can_len_lt {a b : List Int} (ha : Can a) (hb : Can b) (h : a.length < b.length) : val a < val b := by
 have h1 := val_lt a ha.1
 have h2 := can_low b hb (by rintro rfl; simp at h)
 have h3 : (1000000000 : Int) ^ a.length ≤ 1000000000 ^ (b.length - 1) := pow_mono (by omega)
 omega
def dg (n : Nat) : List Int := if h : n = 0 then [] else ((n % 1000000000 : Nat) : Int) :: dg (n / 1000000000)
termination_by n
decreasing_by omega
theorem dg_zero : dg 0 = [] := by rw [dg, dif_pos rfl]
theorem dg_pos (n : Nat) (h : n ≠ 0) : dg n = ((n % 1000000000 : Nat) : Int) :: dg (n / 1000000000) := by rw [dg, dif_neg h]
theorem dg_val : ∀ n : Nat, val (dg n) = n := by
 intro n
 induction n using Nat.strongRecOn with
 |ind n ih =>
  by_cases h : n = 0
  ·subst h; rw [dg_zero]; rfl
  ·rw [dg_pos n h, val, ih (n / 1000000000) (by omega)]
   omega
theorem dg_can : ∀ n : Nat, Can (dg n) := by
 intro n
 induction n using Nat.strongRecOn with
 |ind n ih =>
  by_cases h : n = 0
  ·subst h; rw [dg_zero]; exact Can.nil
  ·rw [dg_pos n h]
   have i := ih (n / 1000000000) (by omega)
   refine ⟨Lim.cons (by omega) (by omega) i.1, fun x hx => ?_⟩
   by_cases c : n / 1000000000 = 0
   ·rw [c, dg_zero] at hx
    simp at hx
    omega
   ·rw [dg_pos _ c, List.getLast?_cons_cons, ← dg_pos _ c] at hx
    exact i.2 x hx
theorem dg_of {l : List Int} (h : Can l) : dg (val l).toNat = l := by
 refine can_eq _ _ (dg_can _) h ?_
 rw [dg_val]
 have := val_nonneg l h.1
 omega
theorem tr_dg {l : List Int} (h : Lim l) : tr l = dg (val l).toNat := by
 have := dg_of (tr_can l h)
 rw [tr_val] at this
 exact this.symm
end Go.Proofs.YtfmcgammhfdfnaaGreatDoor.PRatio
namespace Go.Proofs.YtfmcgammhfdfnaaGreatDoor.PRatio.Ten
open Go.RowKit Go.Proofs.YtfmcgammhfdfnaaGreatDoorW.PrintWords
set_option linter.unusedVariables false
set_option linter.unusedSimpArgs false
def val : List Int → Int
 |[] => 0
 |x :: xs => x + 10 * val xs
def Lim (l : List Int) : Prop := ∀ x ∈ l, 0 ≤ x ∧ x < 10
def Can (l : List Int) : Prop := Lim l ∧ ∀ x, l.getLast? = some x → x ≠ 0
theorem Lim.nil : Lim [] := fun x h => by cases h
theorem Can.nil : Can [] := ⟨Lim.nil, fun x h => by simp at h⟩
theorem Lim.cons {x : Int} {l : List Int} (h0 : 0 ≤ x) (h1 : x < 10) (h : Lim l) : Lim (x :: l) := fun y hy => by
 rcases List.mem_cons.1 hy with rfl | hy
 ·exact ⟨h0, h1⟩
 ·exact h y hy
theorem Lim.tail {x : Int} {l : List Int} (h : Lim (x :: l)) : Lim l := fun y hy => h y (List.mem_cons_of_mem _ hy)
theorem Lim.head {x : Int} {l : List Int} (h : Lim (x :: l)) : 0 ≤ x ∧ x < 10 := h x List.mem_cons_self
theorem Lim.append {a b : List Int} (ha : Lim a) (hb : Lim b) : Lim (a ++ b) := fun y hy => by
 rcases List.mem_append.1 hy with h | h
 ·exact ha y h
 ·exact hb y h
theorem Lim.left {a b : List Int} (h : Lim (a ++ b)) : Lim a := fun y hy => h y (List.mem_append_left _ hy)
theorem Lim.take {l : List Int} (h : Lim l) (n : Nat) : Lim (l.take n) := fun y hy => h y (List.take_subset _ _ hy)
theorem Lim.drop {l : List Int} (h : Lim l) (n : Nat) : Lim (l.drop n) := fun y hy => h y (List.drop_subset _ _ hy)
theorem Lim.rd {l : List Int} (h : Lim l) (i : Nat) (hi : i < l.length) : 0 ≤ rd l (i : Int) ∧ rd l (i : Int) < 10 := by
 have e : Go.Proofs.YtfmcgammhfdfnaaGreatDoorW.PrintWords.rd l (i : Int) = l[i] := by
  unfold Go.Proofs.YtfmcgammhfdfnaaGreatDoorW.PrintWords.rd
  simp [hi]
 rw [e]
 exact h _ (List.getElem_mem _)
theorem val_append : ∀ a b : List Int, val (a ++ b) = val a + 10 ^ a.length * val b
 |[], b => by simp [val]
 |x :: xs, b => by
  rw [List.cons_append, val, val_append xs b, val, List.length_cons, Int.pow_succ]
  grind
theorem val_nonneg : ∀ l, Lim l → 0 ≤ val l
 |[], _ => by simp [val]
 |x :: xs, h => by
  have := val_nonneg xs h.tail
  have := h.head
  rw [val]
  omega
theorem pow_pos (n : Nat) : (0 : Int) < 10 ^ n := Int.pow_pos (by decide)
theorem val_lt : ∀ l, Lim l → val l < 10 ^ l.length
 |[], _ => by simp [val]
 |x :: xs, h => by
  have h1 := val_lt xs h.tail
  have h2 := h.head
  rw [val, List.length_cons, Int.pow_succ]
  omega
theorem val_zeros (n : Nat) : val (List.replicate n 0) = 0 := by
 induction n with
 |zero => rfl
 |succ n ih => rw [List.replicate_succ, val, ih]; rfl
theorem Lim.zeros (n : Nat) : Lim (List.replicate n 0) := fun x hx => by
 rw [List.eq_of_mem_replicate hx]
 omega
def tr : List Int → List Int
 |[] => []
 |x :: xs => match tr xs with
  |[] => if x = 0 then [] else [x]
  |y :: ys => x :: y :: ys
theorem tr_val : ∀ l, val (tr l) = val l
 |[] => rfl
 |x :: xs => by
  have ih := tr_val xs
  unfold tr
  split
  ·rename_i e
   rw [e] at ih
   split
   ·subst_vars; simp [val] at ih ⊢; omega
   ·simp [val] at ih ⊢; omega
  ·rename_i y ys e
   rw [e] at ih
   rw [val, ih, ← val]
theorem tr_sub : ∀ l, ∀ x ∈ tr l, x ∈ l
 |[], x, h => h
 |a :: xs, x, h => by
  have ih := tr_sub xs x
  unfold tr at h
  split at h
  ·split at h
   ·simp at h
   ·simp at h; simp [h]
  ·rename_i y ys e
   rw [e] at ih
   rcases List.mem_cons.1 h with h | h
   ·simp [h]
   ·exact List.mem_cons_of_mem _ (ih h)
theorem tr_len : ∀ l, (tr l).length ≤ l.length
 |[] => by simp [tr]
 |x :: xs => by
  have ih := tr_len xs
  unfold tr
  split
  ·split <;> simp
  ·rename_i y ys e
   rw [e] at ih
   simpa using ih
theorem tr_can : ∀ l, Lim l → Can (tr l)
 |[], _ => Can.nil
 |x :: xs, h => by
  have ih := tr_can xs h.tail
  refine ⟨fun y hy => h y (tr_sub _ y hy), ?_⟩
  unfold tr
  split
  ·split
   ·intro y hy; simp at hy
   ·rename_i hx
    intro y hy
    simp at hy
    subst hy
    exact hx
  ·rename_i y ys e
   rw [e] at ih
   intro z hz
   rw [List.getLast?_cons_cons] at hz
   exact ih.2 z hz
theorem tr_same : ∀ l, Can l → tr l = l
 |[], _ => rfl
 |[x], h => by
  have := h.2 x (by simp)
  simp [tr, this]
 |x :: y :: ys, h => by
  have ih := tr_same (y :: ys) ⟨h.1.tail, fun z hz => h.2 z (by rw [List.getLast?_cons_cons]; exact hz)⟩
  rw [tr, ih]
theorem can_pos : ∀ l, Can l → l ≠ [] → 0 < val l
 |[], _, h => absurd rfl h
 |[x], h, _ => by
  have h1 := h.1.head
  have h2 := h.2 x (by simp)
  simp [val]
  omega
 |x :: y :: ys, h, _ => by
  have ih := can_pos (y :: ys) ⟨h.1.tail, fun z hz => h.2 z (by rw [List.getLast?_cons_cons]; exact hz)⟩ (by simp)
  have h1 := h.1.head
  rw [val]
  omega
theorem can_eq : ∀ a b, Can a → Can b → val a = val b → a = b
 |[], [], _, _, _ => rfl
 |[], y :: ys, _, hb, h => by
  exfalso
  have := can_pos (y :: ys) hb (by simp)
  simp [val] at h this
  omega
 |x :: xs, [], ha, _, h => by
  exfalso
  have := can_pos (x :: xs) ha (by simp)
  simp [val] at h this
  omega
 |x :: xs, y :: ys, ha, hb, h => by
  have h1 := ha.1.head
  have h2 := hb.1.head
  rw [val, val] at h
  have e1 : x = y := by omega
  have e2 : val xs = val ys := by omega
  have ca : Can xs := ⟨ha.1.tail, fun z hz => by
   cases xs with
   |nil => simp at hz
   |cons a as_ => exact ha.2 z (by rw [List.getLast?_cons_cons]; exact hz)⟩
  have cb : Can ys := ⟨hb.1.tail, fun z hz => by
   cases ys with
   |nil => simp at hz
   |cons a as_ => exact hb.2 z (by rw [List.getLast?_cons_cons]; exact hz)⟩
  rw [e1, can_eq xs ys ca cb e2]
theorem Can.tail {x : Int} {xs : List Int} (h : Can (x :: xs)) : Can xs := ⟨h.1.tail, fun z hz => by
 cases xs with
 |nil => simp at hz
 |cons a as_ => exact h.2 z (by rw [List.getLast?_cons_cons]; exact hz)⟩
theorem can_low : ∀ l, Can l → l ≠ [] → 10 ^ (l.length - 1) ≤ val l
 |[], _, h => absurd rfl h
 |[x], h, _ => by
  have h1 := h.1.head
  have h2 := h.2 x (by simp)
  simp [val]
  omega
 |x :: y :: ys, h, _ => by
  have ih := can_low (y :: ys) h.tail (by simp)
  have h1 := h.1.head
  rw [val]
  simp only [List.length_cons, Nat.add_sub_cancel] at ih ⊢
  rw [Int.pow_succ]
  omega
theorem pow_mono {m n : Nat} (h : m ≤ n) : (10 : Int) ^ m ≤ 10 ^ n := by
 obtain ⟨k, rfl⟩ := Nat.exists_eq_add_of_le h
 rw [Int.pow_add]
 have h1 := pow_pos m
 have h2 := pow_pos k
 have h3 : (1 : Int) ≤ 10 ^ k := h2
 have := Int.mul_le_mul_of_nonneg_left h3 (Int.le_of_lt h1)
 omega
theorem can_len_lt {a b : List Int} (ha : Can a) (hb : Can b) (h : a.length < b.length) : val a < val b := by
 have h1 := val_lt a ha.1
 have h2 := can_low b hb (by rintro rfl; simp at h)
 have h3 : (10 : Int) ^ a.length ≤ 10 ^ (b.length - 1) := pow_mono (by omega)
 omega
def dg (n : Nat) : List Int := if h : n = 0 then [] else ((n % 10 : Nat) : Int) :: dg (n / 10)
termination_by n
decreasing_by omega
theorem dg_zero : dg 0 = [] := by rw [dg, dif_pos rfl]
theorem dg_pos (n : Nat) (h : n ≠ 0) : dg n = ((n % 10 : Nat) : Int) :: dg (n / 10) := by rw [dg, dif_neg h]
theorem dg_val : ∀ n : Nat, val (dg n) = n := by
 intro n
 induction n using Nat.strongRecOn with
 |ind n ih =>
  by_cases h : n = 0
  ·subst h; rw [dg_zero]; rfl
  ·rw [dg_pos n h, val, ih (n / 10) (by omega)]
   omega
theorem dg_can : ∀ n : Nat, Can (dg n) := by
 intro n
 induction n using Nat.strongRecOn with
 |ind n ih =>
  by_cases h : n = 0
  ·subst h; rw [dg_zero]; exact Can.nil
  ·rw [dg_pos n h]
   have i := ih (n / 10) (by omega)
   refine ⟨Lim.cons (by omega) (by omega) i.1, fun x hx => ?_⟩
   by_cases c : n / 10 = 0
   ·rw [c, dg_zero] at hx
    simp at hx
    omega
   ·rw [dg_pos _ c, List.getLast?_cons_cons, ← dg_pos _ c] at hx
    exact i.2 x hx
theorem dg_of {l : List Int} (h : Can l) : dg (val l).toNat = l := by
 refine can_eq _ _ (dg_can _) h ?_
 rw [dg_val]
 have := val_nonneg l h.1
 omega
theorem tr_dg {l : List Int} (h : Lim l) : tr l = dg (val l).toNat := by
 have := dg_of (tr_can l h)
 rw [tr_val] at this
 exact this.symm
end Go.Proofs.YtfmcgammhfdfnaaGreatDoor.PRatio.Ten
namespace Go.Proofs.YtfmcgammhfdfnaaGreatDoor.PRatio
open Go.RowKit Go.Proofs.YtfmcgammhfdfnaaGreatDoorW.PrintWords
set_option linter.unusedVariables false
set_option linter.unusedSimpArgs false
def B (l : List Int) : ByteArray := ⟨(l.map fun x => UInt8.ofNat x.toNat).toArray⟩
def Bys (l : List Int) : Prop := ∀ x ∈ l, 0 ≤ x ∧ x ≤ 255
theorem bytesOf_B {l : List Int} (h : Bys l) : bytesOf (B l) = l := by
 unfold bytesOf B
 simp only [List.map_map]
 conv => rhs; rw [← List.map_id l]
 refine List.map_congr_left fun x hx => ?_
 have := h x hx
 simp [UInt8.toNat_ofNat']
 omega
theorem B_bytesOf (s : ByteArray) : B (bytesOf s) = s := by
 unfold bytesOf B
 simp only [List.map_map]
 have : s.data.toList.map ((fun x : Int => UInt8.ofNat x.toNat) ∘ fun b : UInt8 => (b.toNat : Int)) = s.data.toList := by
  conv => rhs; rw [← List.map_id s.data.toList]
  refine List.map_congr_left fun x _ => ?_
  simp
 rw [this]
theorem bytesOf_inj {s t : ByteArray} (h : bytesOf s = bytesOf t) : s = t := by rw [← B_bytesOf s, h, B_bytesOf]
theorem bytesOf_append (s t : ByteArray) : bytesOf (s ++ t) = bytesOf s ++ bytesOf t := by simp [bytesOf, ByteArray.data_append]
theorem bytesOf_extract (s : ByteArray) (i j : Nat) : bytesOf (s.extract i j) = ((bytesOf s).take j).drop i := by
 simp [bytesOf, ByteArray.data_extract, List.map_take, List.map_drop]
 rw [List.drop_take]
theorem Bys.append {a b : List Int} (ha : Bys a) (hb : Bys b) : Bys (a ++ b) := fun x hx => (List.mem_append.1 hx).elim (ha x) (hb x)
def sg (l : List Int) : List Int := l.map (· + 48)
def ntx (z : Int) : List Int := (sg (if z = 0 then [0] else Ten.dg z.toNat)).reverse
def tx (z : Int) : List Int := if z < 0 then 45 :: ntx (-z) else ntx z
def isd (c : Int) : Bool := decide (48 ≤ c) && decide (c ≤ 57)
theorem isd_iff (c : Int) : isd c = true ↔ 48 ≤ c ∧ c ≤ 57 := by simp [isd]
def nat? : List Int → Option Int
 |[] => none
 |c :: r => if (c :: r).all isd = true then (if c = 48 ∧ r ≠ [] then none else some (Ten.val ((c :: r).map (· - 48)).reverse)) else none
def int? (l : List Int) : Option Int := if l.head? = some 45 then (if l.tail.head? = some 48 then none else (nat? l.tail).map (fun x => -x)) else nat? l
theorem sg_sub (l : List Int) : (sg l).map (· - 48) = l := by
 unfold sg
 rw [List.map_map]
 conv => rhs; rw [← List.map_id l]
 exact List.map_congr_left fun x _ => by simp
theorem sub_sg (l : List Int) : sg (l.map (· - 48)) = l := by
 unfold sg
 rw [List.map_map]
 conv => rhs; rw [← List.map_id l]
 exact List.map_congr_left fun x _ => by simp
theorem sg_isd {l : List Int} (h : Ten.Lim l) : (sg l).all isd = true := by
 rw [List.all_eq_true]
 intro x hx
 obtain ⟨y, hy, rfl⟩ := List.mem_map.1 hx
 have := h y hy
 rw [isd_iff]
 omega
theorem isd_lim {l : List Int} (h : l.all isd = true) : Ten.Lim (l.map (· - 48)) := fun x hx => by
 obtain ⟨y, hy, rfl⟩ := List.mem_map.1 hx
 have := (isd_iff y).1 (List.all_eq_true.1 h y hy)
 omega
theorem Ten.Lim.reverse {l : List Int} (h : Ten.Lim l) : Ten.Lim l.reverse := fun x hx => h x (List.mem_reverse.1 hx)
theorem dg_ne {n : Nat} (h : n ≠ 0) : Ten.dg n ≠ [] := by rw [Ten.dg_pos n h]; simp
theorem ntx_pos {z : Int} (h : 0 < z) : ntx z = (sg (Ten.dg z.toNat)).reverse := by rw [ntx, if_neg (by omega)]
theorem ntx_head {z : Int} (h : 0 < z) : ∃ c r, ntx z = c :: r ∧ 49 ≤ c ∧ c ≤ 57 := by
 rw [ntx_pos h]
 have hc := Ten.dg_can z.toNat
 have hn : Ten.dg z.toNat ≠ [] := dg_ne (by omega)
 obtain ⟨x, hx⟩ : ∃ x, (Ten.dg z.toNat).getLast? = some x := by
  cases e : (Ten.dg z.toNat).getLast? with
  |none => rw [List.getLast?_eq_none_iff] at e; exact absurd e hn
  |some x => exact ⟨x, rfl⟩
 have h1 := hc.2 x hx
 have h2 := hc.1 x (List.mem_of_getLast? hx)
 have h3 : (sg (Ten.dg z.toNat)).reverse.head? = some (x + 48) := by rw [List.head?_reverse, sg, List.getLast?_map, hx]; rfl
 cases e : (sg (Ten.dg z.toNat)).reverse with
 |nil => rw [e] at h3; cases h3
 |cons c r =>
  rw [e] at h3
  cases h3
  exact ⟨_, _, rfl, by omega, by omega⟩
theorem ntx_isd (z : Int) : (ntx z).all isd = true := by
 rw [ntx, List.all_reverse]
 refine sg_isd ?_
 split
 ·intro x hx; simp at hx; omega
 ·exact (Ten.dg_can _).1
theorem nat?_ntx {z : Int} (h : 0 ≤ z) : nat? (ntx z) = some z := by
 rcases (by omega : z = 0 ∨ 0 < z) with rfl | hp
 ·rfl
 obtain ⟨c, r, e, h1, h2⟩ := ntx_head hp
 have hd := ntx_isd z
 rw [e] at hd ⊢
 rw [nat?, if_pos hd, if_neg (by omega), ← e, ntx_pos hp, List.map_reverse, sg_sub, List.reverse_reverse, Ten.dg_val]
 congr 1
 omega
theorem nat?_eq {l : List Int} {z : Int} (h : nat? l = some z) : 0 ≤ z ∧ l = ntx z := by
 cases l with
 |nil => cases h
 |cons c r =>
  rw [nat?] at h
  split at h
  next hd =>
   split at h
   ·cases h
   next hc =>
    have hz := Option.some.inj h
    have hl := isd_lim hd
    have hd1 := (isd_iff c).1 (List.all_eq_true.1 hd c List.mem_cons_self)
    by_cases c0 : c = 48
    ·have hr : r = [] := by
      by_cases e : r = []
      ·exact e
      ·exact absurd ⟨c0, e⟩ hc
     subst c0 hr
     have : z = 0 := by rw [← hz]; rfl
     subst this
     exact ⟨by omega, rfl⟩
    ·have hcan : Ten.Can ((c :: r).map (· - 48)).reverse := by
      refine ⟨hl.reverse, fun x hx => ?_⟩
      rw [List.getLast?_reverse] at hx
      simp at hx
      omega
     have hpos := Ten.can_pos _ hcan (by simp)
     rw [hz] at hpos
     refine ⟨by omega, ?_⟩
     have := Ten.dg_of hcan
     rw [hz] at this
     rw [ntx_pos hpos, this, sg, List.map_reverse, List.reverse_reverse]
     exact (sub_sg _).symm
  ·cases h
theorem tx_neg {z : Int} (h : z < 0) : tx z = 45 :: ntx (-z) := by rw [tx, if_pos h]
theorem tx_nonneg {z : Int} (h : 0 ≤ z) : tx z = ntx z := by rw [tx, if_neg (by omega)]
theorem ntx_ne45 (z : Int) : (ntx z).head? ≠ some 45 := fun e => by
 have := List.all_eq_true.1 (ntx_isd z) 45 (List.mem_of_head? e)
 revert this
 decide
theorem int?_tx (z : Int) : int? (tx z) = some z := by
 by_cases h : z < 0
 ·obtain ⟨c, r, e, h1, h2⟩ := ntx_head (z := -z) (by omega)
  rw [tx_neg h, int?, List.head?_cons, if_pos rfl, List.tail_cons, e, List.head?_cons, if_neg (by simp; omega), ← e, nat?_ntx (by omega)]
  simp
 ·rw [tx_nonneg (by omega), int?, if_neg (ntx_ne45 z), nat?_ntx (by omega)]
theorem int?_eq {l : List Int} {z : Int} (h : int? l = some z) : l = tx z := by
 rw [int?] at h
 split at h
 next h45 =>
  split at h
  ·cases h
  next h48 =>
   obtain ⟨y, hy, rfl⟩ := Option.map_eq_some_iff.1 h
   obtain ⟨h0, he⟩ := nat?_eq hy
   cases l with
   |nil => cases h45
   |cons c r =>
    cases h45
    rw [List.tail_cons] at he h48
    have : y ≠ 0 := by rintro rfl; rw [he] at h48; exact h48 rfl
    rw [tx_neg (by omega), Int.neg_neg, ← he]
 ·obtain ⟨h0, he⟩ := nat?_eq h
  rw [tx_nonneg h0]
  exact he
theorem tx_inj {a b : Int} (h : tx a = tx b) : a = b := by
 have := int?_tx a
 rw [h, int?_tx] at this
 exact (Option.some.inj this).symm
theorem tx_signs (z : Int) : ∀ c ∈ tx z, c = 45 ∨ 48 ≤ c ∧ c ≤ 57 := fun c hc => by
 have hn := fun y => List.all_eq_true.1 (ntx_isd y)
 rw [tx] at hc
 split at hc
 ·rcases List.mem_cons.1 hc with h | h
  ·exact .inl h
  ·exact .inr ((isd_iff c).1 (hn _ c h))
 ·exact .inr ((isd_iff c).1 (hn _ c hc))
theorem tx_bys (z : Int) : Bys (tx z) := fun c hc => by have := tx_signs z c hc; omega
theorem tx_ne (z : Int) : tx z ≠ [] := fun h => by
 have := int?_tx z
 rw [h] at this
 cases this
theorem tx_slash (z : Int) : (47 : Int) ∉ tx z := fun h => by have := tx_signs z 47 h; omega
def rtx (q : Rat) : List Int := if q.den = 1 then tx q.num else tx q.num ++ 47 :: tx q.den
def rat? (l : List Int) : Option Rat :=
 if (47 : Int) ∈ l then
  match int? (l.takeWhile (· != 47)), int? (l.dropWhile (· != 47)).tail with
  |some n, some d => if n ≠ 0 ∧ 1 < d ∧ n.gcd d = 1 then some (mkRat n d.toNat) else none
  |_, _ => none
 else (int? l).map fun z : Int => (z : Rat)
theorem cut_take {a b : List Int} (h : (47 : Int) ∉ a) : (a ++ 47 :: b).takeWhile (· != 47) = a := by
 rw [List.takeWhile_append_of_pos (fun x hx => by simp; rintro rfl; exact h hx)]
 simp
theorem cut_drop {a b : List Int} (h : (47 : Int) ∉ a) : ((a ++ 47 :: b).dropWhile (· != 47)).tail = b := by
 rw [List.dropWhile_append_of_pos (fun x hx => by simp; rintro rfl; exact h hx)]
 simp
theorem cut_join : ∀ {l : List Int}, (47 : Int) ∈ l → l = l.takeWhile (· != 47) ++ 47 :: (l.dropWhile (· != 47)).tail
 |[], h => by cases h
 |x :: l, h => by
  by_cases hx : x = 47
  ·subst hx; simp
  ·have := cut_join (l := l) (by simpa [Ne.symm hx] using h)
   have hb : (x != 47) = true := by simpa using hx
   rw [List.takeWhile_cons_of_pos (by simpa using hx), List.dropWhile_cons_of_pos (by simpa using hx), List.cons_append, ← this]
theorem rat?_rtx (q : Rat) : rat? (rtx q) = some q := by
 rw [rtx]
 split
 next h =>
  rw [rat?, if_neg (tx_slash _), int?_tx]
  simp only [Option.map_some]
  congr 1
  exact Rat.ext rfl h.symm
 next h =>
  rw [rat?, if_pos (by simp), cut_take (tx_slash _), cut_drop (tx_slash _), int?_tx, int?_tx]
  have h0 := q.den_nz
  have hr := q.reduced
  have hn : q.num ≠ 0 := fun e => by rw [Nat.Coprime, e] at hr; simp at hr; exact h hr
  simp only
  rw [if_pos ⟨hn, by omega, by simpa [Int.gcd, Nat.Coprime] using hr⟩, Int.toNat_natCast, Rat.mkRat_self]
theorem rat?_eq {l : List Int} {q : Rat} (h : rat? l = some q) : l = rtx q := by
 rw [rat?] at h
 split at h
 next hm =>
  split at h
  next n d hn hd =>
   split at h
   next hc =>
    obtain ⟨h1, h2, h3⟩ := hc
    have hq := (Option.some.inj h).symm
    have e1 := int?_eq hn
    have e2 := int?_eq hd
    have hnum : q.num = n := by
     rw [hq, Rat.num_mkRat, if_neg (by omega)]
     have : d.toNat.gcd n.natAbs = 1 := by
      rw [Nat.gcd_comm]
      simpa [Int.gcd, show d.natAbs = d.toNat by omega] using h3
     rw [this]
     simp
    have hden : q.den = d.toNat := by
     rw [hq, Rat.den_mkRat, if_neg (by omega)]
     have : d.toNat.gcd n.natAbs = 1 := by
      rw [Nat.gcd_comm]
      simpa [Int.gcd, show d.natAbs = d.toNat by omega] using h3
     rw [this]
     simp
    rw [rtx, if_neg (by omega), hnum, hden, Int.toNat_of_nonneg (by omega), ← e1, ← e2]
    exact cut_join hm
   ·cases h
  ·cases h
 next hm =>
  obtain ⟨z, hz, rfl⟩ := Option.map_eq_some_iff.1 h
  rw [rtx, if_pos (by rfl)]
  exact int?_eq hz
theorem rtx_bys (q : Rat) : Bys (rtx q) := by
 rw [rtx]
 split
 ·exact tx_bys _
 ·refine (tx_bys _).append fun x hx => ?_
  rcases List.mem_cons.1 hx with rfl | h
  ·omega
  ·exact tx_bys _ x h
def TX (z : Int) : ByteArray := B (tx z)
def RT (q : Rat) : ByteArray := B (rtx q)
theorem TX_inj {a b : Int} (h : TX a = TX b) : a = b := tx_inj (by rw [← bytesOf_B (tx_bys a), ← bytesOf_B (tx_bys b)]; exact congrArg bytesOf h)
theorem bytesOf_TX (z : Int) : bytesOf (TX z) = tx z := bytesOf_B (tx_bys z)
theorem bytesOf_RT (q : Rat) : bytesOf (RT q) = rtx q := bytesOf_B (rtx_bys q)
theorem int?_TX {s : ByteArray} {z : Int} (h : int? (bytesOf s) = some z) : s = TX z := bytesOf_inj (by rw [bytesOf_TX]; exact int?_eq h)
theorem rat?_RT {s : ByteArray} {q : Rat} (h : rat? (bytesOf s) = some q) : s = RT q := bytesOf_inj (by rw [bytesOf_RT]; exact rat?_eq h)
end Go.Proofs.YtfmcgammhfdfnaaGreatDoor.PRatio
namespace Go.Proofs.YtfmcgammhfdfnaaGreatDoor.PRatio
open Go.RowKit Go.Proofs.YtfmcgammhfdfnaaGreatDoorW.PrintWords Go.Proofs.YtfmcgammhfdfnaaGreatDoorW.PrintLast Go.Proofs.YtfmcgammhfdfnaaGreatDoorW.PrintMore
attribute [local go_sem] max2_int min2_int max_two min_two max_three min_three max_four min_four
set_option linter.unusedVariables false
set_option linter.unusedSimpArgs false
def errW : Option Int → Value
 |none => .nilIface
 |some c => .iface 0 (.int .i64 c)
theorem errW_none : errW none = .nilIface := rfl
theorem errW_some (c : Int) : errW (some c) = .iface 0 (.int .i64 c) := rfl
theorem info3 : (Tryz.prog.info? 3).map (fun i => (i.zero, i.size, i.bytes)) = some (some (.int .i64 0), 1, 8) := by kernel_rfl
theorem info5 : (Tryz.prog.info? 5).map (fun i => (i.zero, i.size, i.bytes)) = some (some (.int .u8 0), 1, 1) := by kernel_rfl
theorem info22 : (Tryz.prog.info? 22).map (fun i => (i.zero, i.size, i.bytes)) = some (some (.string ⟨#[]⟩), 1, 16) := by kernel_rfl
theorem info108 : (Tryz.prog.info? 108).map (fun i => (i.zero, i.size, i.bytes)) = some (some (.agg #[(.bool false), (.slice none 0 0), (.bool false), (.slice none 0 0), (.bool false)]), 5, 72) := by kernel_rfl
theorem info123 : (Tryz.prog.info? 123).map (fun i => (i.zero, i.size, i.bytes)) = some (some (.agg #[(.bool false), (.slice none 0 0), (.string ⟨#[]⟩)]), 3, 48) := by kernel_rfl
theorem info145 : (Tryz.prog.info? 145).map (fun i => (i.zero, i.size, i.bytes)) = some (some (.int .u32 0), 1, 4) := by kernel_rfl
abbrev KU : Kd Int := Kd.int .u32
def Dg (W : World) (v : Value) (l : List Int) : Prop := ∃ A c, v = .slice A l.length c ∧ l.length ≤ c ∧ Kd.C KU W A l.length l
def IK (w w' : World) : Prop := ∀ a k x, w.cell? a = some (.int k x) → w'.cell? a = some (.int k x)
theorem IK.refl (w : World) : IK w w := fun _ _ _ h => h
theorem IK.trans {a b c : World} (h : IK a b) (k : IK b c) : IK a c := fun _ _ _ e => k _ _ _ (h _ _ _ e)
theorem IK.below {w w' : World} (hb : Below w.heap.size w w') : IK w w' := fun a k x h => (hb.cell (World.block_lt_of_cell? w _ h)).trans h
theorem IK.alloc (w : World) (o : Obj) : IK w (w.alloc o) := IK.below (below_alloc (Below.refl _ _) o)
theorem IK.set {W : World} {p : Addr} {u : Value} (h : W.cell? p = some u) (hu : ∀ k x, u ≠ .int k x) (u' : Value) : IK W (W.setCell p u') := fun a k x e => by
 refine (World.cell?_setCell_other W p a u' ?_).trans e
 rintro rfl
 rw [h] at e
 exact hu k x (Option.some.inj e)
theorem Dg.ik {w w' : World} {v : Value} {l : List Int} (h : Dg w v l) (k : IK w w') : Dg w' v l := by
 obtain ⟨A, c, rfl, hc, h1, h2, h3⟩ := h
 refine ⟨A, c, rfl, hc, h1, h2, fun h0 => ?_⟩
 obtain ⟨ad, e, hr⟩ := h3 h0
 refine ⟨ad, e, fun j p hp => ?_⟩
 obtain ⟨cs, hl, hk, hcell⟩ := hr j p hp
 refine ⟨cs, hl, hk, fun i u hu => ?_⟩
 have hk' : cs = [.int .u32 p] := hk
 subst hk'
 have := hcell i u hu
 have : u = .int .u32 p := by
  rcases i with _ | i
  ·simpa using hu.symm
  ·simp at hu
 subst this
 exact k _ _ _ (hcell i _ hu)
theorem Dg.below {w w' : World} {v : Value} {l : List Int} (h : Dg w v l) (k : Below w.heap.size w w') : Dg w' v l := h.ik (IK.below k)
theorem Dg.C {w : World} {A : Option Addr} {n c : Nat} {l : List Int} (h : Dg w (.slice A n c) l) : n = l.length ∧ l.length ≤ c ∧ Kd.C KU w A l.length l := by
 obtain ⟨A', c', e, h1, h2⟩ := h
 cases e
 exact ⟨rfl, h1, h2⟩
theorem Dg.V {w : World} {v : Value} {l : List Int} (h : Dg w v l) (base : Nat) : Kd.V KU 145 w base (fun k => k < w.heap.size) v l := by
 obtain ⟨A, c, rfl, h1, h2⟩ := h
 exact Kd.V_mk h1 (Kd.C_F (Kd.heap_int _) h2)
theorem Dg.of_V {w : World} {base : Nat} {P : Nat → Prop} {v : Value} {l : List Int} (h : Kd.V KU 145 w base P v l) : Dg w v l := by
 obtain ⟨A, c, rfl⟩ := Kd.V_slice h
 have := Kd.V_reads' h
 exact ⟨A, c, rfl, this.2.1, this.2.2⟩
theorem Dg.of_R {w : World} {base : Nat} {P : Nat → Prop} {v : Value} {l : List Int} (h : Kd.R KU 145 w base P v l) : Dg w v l := by
 obtain ⟨A, c, rfl⟩ := Kd.R_slice h
 have := Kd.R_reads' h
 exact ⟨A, c, rfl, this.2.1, this.2.2⟩
theorem Dg.nil (w : World) : Dg w (.slice none 0 0) [] := ⟨none, 0, rfl, Nat.le_refl _, Kd.C_nil KU w⟩
def Wh (W : World) (b : Bool) (v : Value) (z : Int) : Prop := b = decide (z < 0) ∧ Dg W v (dg z.natAbs)
theorem Wh.ik {w w' : World} {b : Bool} {v : Value} {z : Int} (h : Wh w b v z) (k : IK w w') : Wh w' b v z := ⟨h.1, h.2.ik k⟩
theorem Wh.below {w w' : World} {b : Bool} {v : Value} {z : Int} (h : Wh w b v z) (k : Below w.heap.size w w') : Wh w' b v z := h.ik (IK.below k)
theorem Wh.slice {w : World} {b : Bool} {v : Value} {z : Int} (h : Wh w b v z) : ∃ A c, v = .slice A (dg z.natAbs).length c := by
 obtain ⟨_, A, c, e, _⟩ := h
 exact ⟨A, c, e⟩
theorem Wh.zero (w : World) : Wh w false (.slice none 0 0) 0 := ⟨rfl, by rw [Int.natAbs_zero, dg_zero]; exact Dg.nil w⟩
theorem Wh.eq {w : World} {b : Bool} {v : Value} {z z' : Int} (h : Wh w b v z) (e : z = z') : Wh w b v z' := e ▸ h
def nonInt : Value → Bool | .int _ _ => false | _ => true
theorem nonInt_ne {u : Value} (h : nonInt u = true) (k : IntKind) (x : Int) : u ≠ .int k x := by rintro rfl; cases h
def Bxs (w W : World) : List (Nat × List Value × Nat) → Prop
 |[] => True
 |b :: r => (w.heap.size ≤ b.1 ∧ W.heap[b.1]? = some (.cells b.2.1.toArray b.2.2 (0, 0)) ∧ b.2.1.all nonInt = true ∧ ∀ b' ∈ r, b'.1 < b.1) ∧ Bxs w W r
def St (P : World → Prop) (W : World) : Prop := ∀ W', IK W W' → P W'
structure Env (w W : World) (rows : List (World → Prop)) (bx : List (Nat × List Value × Nat)) : Prop where
 below : Below w.heap.size w W
 rows : ∀ P ∈ rows, St P W
 bxs : Bxs w W bx
theorem Env.start (w : World) : Env w w [] [] := ⟨Below.refl _ _, fun _ h => (by cases h), trivial⟩
theorem Env.row {w W : World} {rows : List (World → Prop)} {bx : List (Nat × List Value × Nat)} {P : World → Prop} (E : Env w W rows bx) (h : P ∈ rows) : P W := E.rows P h W (IK.refl W)
theorem Env.cons {w W : World} {rows : List (World → Prop)} {bx : List (Nat × List Value × Nat)} (E : Env w W rows bx) (P : World → Prop) (h : St P W) : Env w W (P :: rows) bx :=
 ⟨E.below, fun Q hQ => (List.mem_cons.1 hQ).elim (fun e => e ▸ h) (E.rows Q), E.bxs⟩
theorem Env.wh {w W : World} {rows : List (World → Prop)} {bx : List (Nat × List Value × Nat)} (E : Env w W rows bx) {b : Bool} {v : Value} {z : Int} (h : Wh W b v z) : Env w W ((fun W => Wh W b v z) :: rows) bx := E.cons _ (fun _ k => h.ik k)
theorem Env.dg {w W : World} {rows : List (World → Prop)} {bx : List (Nat × List Value × Nat)} (E : Env w W rows bx) {v : Value} {l : List Int} (h : Dg W v l) : Env w W ((fun W => Dg W v l) :: rows) bx := E.cons _ (fun _ k => h.ik k)
theorem Bxs.below {w W W' : World} (hb : Below W.heap.size W W') : ∀ {bx : List (Nat × List Value × Nat)}, Bxs w W bx → Bxs w W' bx
 |[], _ => trivial
 |b :: r, ⟨⟨h1, h2, h3, h4⟩, h⟩ => ⟨⟨h1, blk_below h2 hb, h3, h4⟩, Bxs.below hb h⟩
theorem Bxs.lt {w W : World} : ∀ {bx : List (Nat × List Value × Nat)}, Bxs w W bx → ∀ b ∈ bx, b.1 < W.heap.size
 |[], _, b, h => by cases h
 |_ :: _, ⟨⟨_, h2, _, _⟩, h⟩, b, hm => by
  rcases List.mem_cons.1 hm with rfl | hm
  ·exact blk_lt h2
  ·exact Bxs.lt h b hm
theorem Env.next {w W W' : World} {rows : List (World → Prop)} {bx : List (Nat × List Value × Nat)} (E : Env w W rows bx) (hb : Below W.heap.size W W') : Env w W' rows bx :=
 ⟨E.below.trans (hb.mono E.below.size), fun P hP V hV => E.rows P hP V ((IK.below hb).trans hV), E.bxs.below hb⟩
theorem Env.alloc {w W : World} {rows : List (World → Prop)} {bx : List (Nat × List Value × Nat)} (E : Env w W rows bx) (cs : List Value) (t : Nat) (hn : cs.all nonInt = true) :
  Env w (W.alloc (.cells cs.toArray t (0, 0))) rows ((W.heap.size, cs, t) :: bx) := by
 have E' := E.next (below_alloc (Below.refl _ _) (.cells cs.toArray t (0, 0)))
 exact ⟨E'.below, E'.rows, ⟨⟨E.below.size, blk_new _ _, hn, fun b' hb' => E.bxs.lt b' hb'⟩, E'.bxs⟩⟩
theorem Bxs.at {w W : World} {g : Nat} {cs : List Value} {t : Nat} : ∀ {bx : List (Nat × List Value × Nat)} {i : Nat}, Bxs w W bx → bx[i]? = some (g, cs, t) → w.heap.size ≤ g ∧ W.heap[g]? = some (.cells cs.toArray t (0, 0)) ∧ cs.all nonInt = true
 |b :: r, 0, ⟨⟨h1, h2, h3, _⟩, _⟩, e => by
  obtain rfl := Option.some.inj e
  exact ⟨h1, h2, h3⟩
 |b :: r, i + 1, ⟨_, h⟩, e => Bxs.at h (by simpa using e)
theorem Bxs.set {w W : World} {g : Nat} {cs : List Value} {t : Nat} (j : Nat) (u : Value) (hu : nonInt u = true) : ∀ {bx : List (Nat × List Value × Nat)} {i : Nat}, Bxs w W bx → bx[i]? = some (g, cs, t) → Bxs w (W.setCell ⟨g, j, none⟩ u) (bx.set i (g, cs.set j u, t))
 |b :: r, 0, ⟨⟨h1, h2, h3, h4⟩, h⟩, e => by
  obtain rfl := Option.some.inj e
  have keep : ∀ {r : List (Nat × List Value × Nat)}, (∀ b' ∈ r, b'.1 < g) → Bxs w W r → Bxs w (W.setCell ⟨g, j, none⟩ u) r := fun {r} => by
   induction r with
   |nil => intro _ _; trivial
   |cons b r ih =>
    rintro hlt ⟨⟨a1, a2, a3, a4⟩, a5⟩
    have := hlt b List.mem_cons_self
    exact ⟨⟨a1, (Below.heap_setCell W _ u _ (by show b.1 ≠ g; omega)).trans a2, a3, a4⟩, ih (fun b' hb' => hlt b' (List.mem_cons_of_mem _ hb')) a5⟩
  refine ⟨⟨h1, blk_put h2 j u (by simp), ?_, h4⟩, keep h4 h⟩
  rw [List.all_eq_true] at h3 ⊢
  intro x hx
  rcases List.mem_or_eq_of_mem_set hx with hx | rfl
  ·exact h3 x hx
  ·exact hu
 |b :: r, i + 1, ⟨⟨h1, h2, h3, h4⟩, h⟩, e => by
  have e' : r[i]? = some (g, cs, t) := by simpa using e
  have hm := h4 _ (List.mem_of_getElem? e')
  refine ⟨⟨h1, (Below.heap_setCell W _ u _ ?_).trans h2, h3, fun b' hb' => ?_⟩, Bxs.set j u hu h e'⟩
  ·show b.1 ≠ g
   simp at hm
   omega
  ·rcases List.mem_or_eq_of_mem_set hb' with hb' | rfl
   ·exact h4 b' hb'
   ·exact hm
theorem Env.set {w W : World} {rows : List (World → Prop)} {bx : List (Nat × List Value × Nat)} {g : Nat} {cs : List Value} {t : Nat} (E : Env w W rows bx) (i j : Nat) {u : Value} (hi : bx[i]? = some (g, cs, t)) (hj : j < cs.length) (hu : nonInt u = true) :
  Env w (W.setCell ⟨g, j, none⟩ u) rows (bx.set i (g, cs.set j u, t)) := by
 obtain ⟨h1, h2, h3⟩ := E.bxs.at hi
 have hc := (blk_cell h2 j)
 have hc' : W.cell? ⟨g, j, none⟩ = some cs[j] := by rw [hc]; simp [hj]
 have hn : nonInt cs[j] = true := List.all_eq_true.1 h3 _ (List.getElem_mem hj)
 exact ⟨E.below.setCell h1 u, fun P hP V hV => E.rows P hP V ((IK.set hc' (nonInt_ne hn) u).trans hV), E.bxs.set j u hu hi⟩
def Clb (W : World) (g : Nat) : Nat → List Value → Prop → Prop
 |_, [], P => P
 |i, c :: cs, P => W.cell? ⟨g, i, none⟩ = some c ∧ W.frozen? ⟨g, i, none⟩ = false ∧ Clb W g (i + 1) cs P
def Cls (W : World) : List (Nat × List Value × Nat) → Prop
 |[] => Nat → True | (g, cs, _) :: r => Clb W g 0 cs (Cls W r)
theorem clb_of {W : World} {g t : Nat} {P : Prop} (hP : P) {cs0 : List Value} (h : W.heap[g]? = some (.cells cs0.toArray t (0, 0))) : ∀ (cs : List Value) (i : Nat), cs0.drop i = cs → Clb W g i cs P
 |[], _, _ => hP
 |c :: cs, i, e => by
  have hc : cs0[i]? = some c := by
   have := congrArg (·[0]?) e
   simpa using this
  refine ⟨(blk_cell h i).trans (by simpa using hc), blk_frozen h i, clb_of hP h cs (i + 1) ?_⟩
  have := congrArg List.tail e
  simpa using this
theorem Bxs.cls {w W : World} : ∀ {bx : List (Nat × List Value × Nat)}, Bxs w W bx → Cls W bx
 |[], _ => fun _ => trivial | (g, cs, t) :: r, ⟨⟨_, h2, _, _⟩, h⟩ => clb_of (Bxs.cls h) h2 cs 0 rfl
theorem Env.cls {w W : World} {rows : List (World → Prop)} {bx : List (Nat × List Value × Nat)} (E : Env w W rows bx) : Cls W bx := E.bxs.cls
theorem Env.getW {w W : World} {rows : List (World → Prop)} {bx : List (Nat × List Value × Nat)} (E : Env w W rows bx) {b : Bool} {v : Value} {z : Int} (h : (fun W => Wh W b v z) ∈ rows := by repeat (first | exact List.Mem.head _ | apply List.Mem.tail)) : Wh W b v z := E.row h
theorem Env.getD {w W : World} {rows : List (World → Prop)} {bx : List (Nat × List Value × Nat)} (E : Env w W rows bx) {v : Value} {l : List Int} (h : (fun W => Dg W v l) ∈ rows := by repeat (first | exact List.Mem.head _ | apply List.Mem.tail)) : Dg W v l := E.row h
section
variable {w W : World} {rows : List (World → Prop)} {bx : List (Nat × List Value × Nat)} {g t : Nat} {a0 a1 a2 a3 a4 u0 u1 u2 u3 u4 : Value}
theorem set_at {i : Nat} {b b' : Nat × List Value × Nat} (hi : bx[i]? = some b) : (bx.set i b')[i]? = some b' := by
 rw [List.getElem?_set_self (List.getElem?_eq_some_iff.1 hi).1]
variable {ws : World}
theorem Env.put2 (hw : ws = (W.setCell ⟨g, 0, none⟩ u0).setCell ⟨g, 1, none⟩ u1) (E : Env w W rows bx) (i : Nat) (hi : bx[i]? = some (g, [a0, a1], t)) (h0 : nonInt u0 = true) (h1 : nonInt u1 = true) : Env w ws rows (bx.set i (g, [u0, u1], t)) := by
 have := (E.set i 0 hi (by simp) h0).set i 1 (set_at hi) (by simp) h1
 subst hw
 simpa using this
theorem Env.put4 (hw : ws = (((W.setCell ⟨g, 0, none⟩ u0).setCell ⟨g, 1, none⟩ u1).setCell ⟨g, 2, none⟩ u2).setCell ⟨g, 3, none⟩ u3) (E : Env w W rows bx) (i : Nat) (hi : bx[i]? = some (g, [a0, a1, a2, a3], t)) (h0 : nonInt u0 = true) (h1 : nonInt u1 = true) (h2 : nonInt u2 = true) (h3 : nonInt u3 = true) :
  Env w ws rows (bx.set i (g, [u0, u1, u2, u3], t)) := by
 have := (((E.set i 0 hi (by simp) h0).set i 1 (set_at hi) (by simp) h1).set i 2 (set_at (set_at hi)) (by simp) h2).set i 3 (set_at (set_at (set_at hi))) (by simp) h3
 subst hw
 simpa using this
end
section
variable {P : Program} {ops : Array Oper} {o : Oper} {rest : List Oper} {a : Act} {Q : Exit → Act → World → Prop} {w W : World} {rows : List (World → Prop)} {bx : List (Nat × List Value × Nat)}
theorem gate_box {t : TypeId} {x : Operand} (_ho : o.op = .box t x) (h : wpList P ops Q (o :: rest) a W) : wpList P ops Q (o :: rest) a W := h
theorem gate_alloc {t : TypeId} (_ho : o.op = .alloc t) (h : wpList P ops Q (o :: rest) a W) : wpList P ops Q (o :: rest) a W := h
theorem gate_stored {t : TypeId} {p v : Operand} (_ho : o.op = .store t p v) (h : wpList P ops Q (o :: rest) a W) : wpList P ops Q (o :: rest) a W := h
theorem env_box (E : Env w W rows bx) (hgd : o.guard = none) (h : ∃ (cs : List Value) (t : TypeId), (execOp a.eval o).run P W = .ok (.value (.pointer (some ⟨W.heap.size, 0, none⟩))) (W.alloc (.cells cs.toArray t (0, 0))) ∧ cs.all nonInt = true ∧
  ∀ g w1, Env w w1 rows ((g, cs, t) :: bx) → wpList P ops Q rest (a.put o.dst (.pointer (some ⟨g, 0, none⟩))) w1) : wpList P ops Q (o :: rest) a W := by
 obtain ⟨cs, t, hrun, hn, h⟩ := h
 exact Kd.event_run hgd hrun (h _ _ (E.alloc cs t hn))
theorem env_store (hgd : o.guard = none) (hN : o.dst = none) (h : ∃ w1 : World, (execOp a.eval o).run P W = .ok .skip w1 ∧ ∀ w', w' = w1 → wpList P ops Q rest a w') : wpList P ops Q (o :: rest) a W := by
 obtain ⟨w1, hrun, h⟩ := h
 refine wpList_plain hgd fun K hK => ?_
 unfold Oper.wp
 rw [hrun]
 show K (a.put o.dst undef) w1
 rw [hN]
 exact hK _ _ (h _ rfl)
theorem skip_env {oi : Oper} {K : Act → World → Prop} (hw : Region.wanted oi (yielded ops a.tmps) = true) (hN : oi.dst = none) (h : ∃ w1 : World, (execOp a.eval oi).run P W = .ok .skip w1 ∧ ∀ w', w' = w1 → K a w') : if Region.wanted oi (yielded ops a.tmps) = true then Oper.wp P oi a W K Q else K (a.put none undef) W := by
 obtain ⟨w1, hrun, h⟩ := h
 exact skip_ hw hN hrun (h _ rfl)
theorem value_env {oi : Oper} {N : Option Tmp} {K : Act → World → Prop} (E : Env w W rows bx) (hw : Region.wanted oi (yielded ops a.tmps) = true) (hN : oi.dst = N)
  (h : ∃ (cs : List Value) (t : TypeId), (execOp a.eval oi).run P W = .ok (.value (.pointer (some ⟨W.heap.size, 0, none⟩))) (W.alloc (.cells cs.toArray t (0, 0))) ∧ cs.all nonInt = true ∧ ∀ g w1, Env w w1 rows ((g, cs, t) :: bx) → K (a.put N (.pointer (some ⟨g, 0, none⟩))) w1) :
  if Region.wanted oi (yielded ops a.tmps) = true then Oper.wp P oi a W K Q else K (a.put N undef) W := by
 obtain ⟨cs, t, hrun, hn, h⟩ := h
 exact value_ hw hN hrun (h _ _ (E.alloc cs t hn))
theorem Env.draw (E : Env w W rows bx) : Env w W.drew rows bx := E.next (below_drew (Below.refl _ _))
end
theorem env_call {P : Program} {f : FuncId} {args : Array Value} {w W : World} {rows : List (World → Prop)} {bx : List (Nat × List Value × Nat)} {R post : Ending → World → Prop} (E : Env w W rows bx)
  (hc : Calls P f args W fun e w' => Below W.heap.size W w' ∧ R e w') (h : ∀ e w', Env w w' rows bx → R e w' → post e w') : Calls P f args W post :=
 hc.mono fun e w' ⟨hb, hr⟩ => h e w' (E.next hb) hr
def bz (n m : Nat) : Array Bool := ((List.range n).map fun i => m.testBit i).toArray
section
variable {P : Program} {ops : Array Oper} {Q : Exit → Act → World → Prop} {md : Region.Mode} {S : World → Prop} {ds : List Nat} {fuel : Nat} {l : Array Bool} {a : Act} {w : World}
theorem pu_ (i : Nat) (N : Option Tmp) (l' : Array Bool) {oi : Oper} {v : Value} {a' : Act} (h : wpAnyLast P md ops Q S ds fuel l' a' w) (hi : ops[i]? = some oi := by exact rfl) (hN : oi.dst = N := by exact rfl) (hc : anyB md ops l l' i = true := by kernel_rfl)
  (hQ : ∀ c a w, Q (.panic c) (a.put oi.dst v) w → Q (.panic c) a w := by exact fun _ _ _ h => h) (hg : Region.wanted oi (yielded ops a.tmps) = true := by rfl) (hy : ∀ w, (execOp a.eval oi).run P w = .ok (.value v) w := by intro w'; go_simp; with_reducible rfl)
  (ha : a.put N v = a' := by first | (simp only [Act.put, List.setIfInBounds_toArray, List.set_cons_zero, List.set_cons_succ, i64_w, i32_w]; rfl) | rfl) : wpAnyLast P md ops Q S ds (fuel + 1) l a w := pure_ l' hi hN hc hQ (Or.inl ⟨hg, hy⟩) ha h
theorem po_ (i : Nat) (N : Option Tmp) (l' : Array Bool) {oi : Oper} {a' : Act} (h : wpAnyLast P md ops Q S ds fuel l' a' w) (hi : ops[i]? = some oi := by exact rfl) (hN : oi.dst = N := by exact rfl) (hc : anyB md ops l l' i = true := by kernel_rfl)
  (hQ : ∀ c a w, Q (.panic c) (a.put oi.dst undef) w → Q (.panic c) a w := by exact fun _ _ _ h => h) (hg : Region.wanted oi (yielded ops a.tmps) = false := by rfl)
  (ha : a.put N undef = a' := by first | (simp only [Act.put, List.setIfInBounds_toArray, List.set_cons_zero, List.set_cons_succ, i64_w, i32_w]; rfl) | rfl) : wpAnyLast P md ops Q S ds (fuel + 1) l a w := pure_ l' hi hN hc hQ (Or.inr ⟨hg, rfl⟩) ha h
theorem ta_ (i : Nat) (N : Option Tmp) (l' : Array Bool) (hS : S w) {oi : Oper} {v : Value} {a' : Act} (h : wpAnyLast P md ops Q S ds fuel l' a' w) (hi : ops[i]? = some oi := by exact rfl) (hN : oi.dst = N := by exact rfl) (hc : takeB md ops ds l l' i = true := by kernel_rfl)
  (hQ : ∀ c a w, Q (.panic c) (a.put oi.dst v) w → Q (.panic c) a w := by exact fun _ _ _ h => h) (hg : Region.wanted oi (yielded ops a.tmps) = true := by rfl)
  (hy : ∀ w, S w → (execOp a.eval oi).run P w = .ok (.value v) w := by intro w' hc_; (repeat (obtain ⟨c_, f_, hc_⟩ := hc_)); go_simp; with_reducible rfl)
  (ha : a.put N v = a' := by first | (simp only [Act.put, List.setIfInBounds_toArray, List.set_cons_zero, List.set_cons_succ, i64_w, i32_w]; rfl) | rfl) : wpAnyLast P md ops Q S ds (fuel + 1) l a w := take_ l' hi hN hc hQ (Or.inl ⟨hg, hy⟩) hS ha h
theorem nm_ (N : Option Tmp) {M : Option Tmp} {v : Value} {a' : Act} (h : wpAnyLast P md ops Q S ds fuel l a' w) (hM : M = N := by exact rfl) (ha : a.put N v = a' := by first | (simp only [Act.put, List.setIfInBounds_toArray, List.set_cons_zero, List.set_cons_succ, i64_w, i32_w]; rfl) | rfl) : wpAnyLast P md ops Q S ds fuel l (a.put M v) w := by
 subst hM
 exact norm_ ha h
theorem on_ (i : Nat) (N : Option Tmp) (l' : Array Bool) {oi : Oper} (h : ∀ K : Act → World → Prop, Shut (∀ a' w', S w' → (S w' → wpAnyLast P md ops Q S ds fuel l' a' w') → K a' w') → if Region.wanted oi (yielded ops a.tmps) = true then Oper.wp P oi a w K Q else K (a.put N undef) w)
  (hi : ops[i]? = some oi := by exact rfl) (hN : oi.dst = N := by exact rfl) (hc : readyB md ops l l' i = true := by kernel_rfl) (hd : i ∉ ds := by decide) : wpAnyLast P md ops Q S ds (fuel + 1) l a w := one_ l' hi hN hc hd h
theorem la_ (i : Nat) (N : Option Tmp) (l' : Array Bool) {oi : Oper} (h : ∀ K : Act → World → Prop, Shut (∀ a' w', wpAnyLast P md ops Q S ds fuel l' a' w' → K a' w') → if Region.wanted oi (yielded ops a.tmps) = true then Oper.wp P oi a w K Q else K (a.put N undef) w)
  (hi : ops[i]? = some oi := by exact rfl) (hN : oi.dst = N := by exact rfl) (hc : readyB md ops l l' i = true := by kernel_rfl) (hd : i ∈ ds := by decide) : wpAnyLast P md ops Q S ds (fuel + 1) l a w := last_ l' hi hN hc hd h
theorem gs_ {oi : Oper} {N : Option Tmp} {K : Act → World → Prop} {f : FuncId} {fn : Func} {aa : Array Operand} {ts : Array TypeId} {args : Array Value} (hf : P.funcs[f]? = some fn)
  (h : Calls P f args w fun e w' => ∃ v, e = .returned v ∧ K (a.put N v) w') (hname : (fn.name == "runtime.NumGoroutine") = false := by kernel_rfl) (hb : fn.body.isSome = true := by exact rfl)
  (hw : Region.wanted oi (yielded ops a.tmps) = true := by rfl) (hN : oi.dst = N := by exact rfl) (hop : oi.op = .call { callee := .value (.func f), args := aa, argTypes := ts } := by exact rfl)
  (hargs : aa.map a.eval = args := by (try simp only [List.map_toArray, List.map_cons, List.map_nil]); first | done | rfl) : if Region.wanted oi (yielded ops a.tmps) = true then Oper.wp P oi a w K Q else K (a.put N undef) w := goes_ hf hname hb args hw hN hop hargs h
end
section
variable {P : Program} {ops : Array Oper} {Q : Exit → Act → World → Prop} {o : Oper} {rest : List Oper} {a : Act} {w W : World} {rows : List (World → Prop)} {bx : List (Nat × List Value × Nat)}
theorem st_ {w1 : World} (h : ∀ w', w' = w1 → wpList P ops Q rest a w') (hgd : o.guard = none := by rfl) (hN : o.dst = none := by rfl) (hrun : (execOp a.eval o).run P W = .ok .skip w1 := by first | (go_simp; done) | (go_simp; rfl)) : wpList P ops Q (o :: rest) a W :=
 env_store hgd hN ⟨w1, hrun, h⟩
theorem sk_ {oi : Oper} {K : Act → World → Prop} {w1 : World} (h : ∀ w', w' = w1 → K a w') (hw : Region.wanted oi (yielded ops a.tmps) = true := by rfl) (hN : oi.dst = none := by exact rfl) (hrun : (execOp a.eval oi).run P W = .ok .skip w1 := by first | (go_simp; done) | (go_simp; rfl)) :
  if Region.wanted oi (yielded ops a.tmps) = true then Oper.wp P oi a W K Q else K (a.put none undef) W := skip_env hw hN ⟨w1, hrun, h⟩
theorem bx_ {cs : List Value} {t : TypeId} (E : Env w W rows bx) (h : ∀ g w1, Env w w1 rows ((g, cs, t) :: bx) → wpList P ops Q rest (a.put o.dst (.pointer (some ⟨g, 0, none⟩))) w1) (hgd : o.guard = none := by rfl)
  (hrun : (execOp a.eval o).run P W = .ok (.value (.pointer (some ⟨W.heap.size, 0, none⟩))) (W.alloc (.cells cs.toArray t (0, 0))) := by first | rfl | (go_simp; done) | (go_simp; rfl)) (hn : cs.all nonInt = true := by rfl) : wpList P ops Q (o :: rest) a W :=
 env_box E hgd ⟨cs, t, hrun, hn, h⟩
theorem ix0 {α : Type} {x0 : α} {r : List α} : (x0 :: r)[0]? = some x0 := rfl
theorem ix1 {α : Type} {x0 x1 : α} {r : List α} : (x0 :: x1 :: r)[1]? = some x1 := rfl
theorem ix2 {α : Type} {x0 x1 x2 : α} {r : List α} : (x0 :: x1 :: x2 :: r)[2]? = some x2 := rfl
theorem ix3 {α : Type} {x0 x1 x2 x3 : α} {r : List α} : (x0 :: x1 :: x2 :: x3 :: r)[3]? = some x3 := rfl
theorem ix4 {α : Type} {x0 x1 x2 x3 x4 : α} {r : List α} : (x0 :: x1 :: x2 :: x3 :: x4 :: r)[4]? = some x4 := rfl
theorem ix5 {α : Type} {x0 x1 x2 x3 x4 x5 : α} {r : List α} : (x0 :: x1 :: x2 :: x3 :: x4 :: x5 :: r)[5]? = some x5 := rfl
theorem ix6 {α : Type} {x0 x1 x2 x3 x4 x5 x6 : α} {r : List α} : (x0 :: x1 :: x2 :: x3 :: x4 :: x5 :: x6 :: r)[6]? = some x6 := rfl
theorem ix7 {α : Type} {x0 x1 x2 x3 x4 x5 x6 x7 : α} {r : List α} : (x0 :: x1 :: x2 :: x3 :: x4 :: x5 :: x6 :: x7 :: r)[7]? = some x7 := rfl
theorem ix8 {α : Type} {x0 x1 x2 x3 x4 x5 x6 x7 x8 : α} {r : List α} : (x0 :: x1 :: x2 :: x3 :: x4 :: x5 :: x6 :: x7 :: x8 :: r)[8]? = some x8 := rfl
variable {g t i : Nat} {a0 a1 a2 a3 a4 u0 u1 u2 u3 u4 : Value} {ws : World}
theorem Env.blk {cs : List Value} (E : Env w W rows bx) (hi : bx[i]? = some (g, cs, t) := by first | exact ix0 | exact ix1 | exact ix2 | exact ix3 | exact ix4 | exact ix5 | exact ix6 | exact ix7 | exact ix8) : W.heap[g]? = some (.cells cs.toArray t (0, 0)) := (E.bxs.at hi).2.1
theorem Env.pt2 (hw : ws = (W.setCell ⟨g, 0, none⟩ u0).setCell ⟨g, 1, none⟩ u1) (E : Env w W rows bx) (hi : bx[i]? = some (g, [a0, a1], t) := by first | exact ix0 | exact ix1 | exact ix2 | exact ix3 | exact ix4 | exact ix5 | exact ix6 | exact ix7 | exact ix8) (h0 : nonInt u0 = true := by rfl) (h1 : nonInt u1 = true := by rfl) : Env w ws rows (bx.set i (g, [u0, u1], t)) := E.put2 hw i hi h0 h1
theorem Env.pt4 (hw : ws = (((W.setCell ⟨g, 0, none⟩ u0).setCell ⟨g, 1, none⟩ u1).setCell ⟨g, 2, none⟩ u2).setCell ⟨g, 3, none⟩ u3) (E : Env w W rows bx) (hi : bx[i]? = some (g, [a0, a1, a2, a3], t) := by first | exact ix0 | exact ix1 | exact ix2 | exact ix3 | exact ix4 | exact ix5 | exact ix6 | exact ix7 | exact ix8) (h0 : nonInt u0 = true := by rfl) (h1 : nonInt u1 = true := by rfl) (h2 : nonInt u2 = true := by rfl) (h3 : nonInt u3 = true := by rfl) :
  Env w ws rows (bx.set i (g, [u0, u1, u2, u3], t)) := E.put4 hw i hi h0 h1 h2 h3
end
def RowN (e size base : Nat) (W : World) (v : Value) (n : Nat) (xs : List Value) : Prop := xs.length = n * size ∧ ((v = .slice none 0 0 ∧ n = 0) ∨
 ∃ g cap cs, v = .slice (some ⟨g, 0, none⟩) n cap ∧ base ≤ g ∧ W.heap[g]? = some (.cells (xs ++ cs).toArray e (0, 0)) ∧ n ≤ cap ∧ cap ≤ maxLen ∧ (xs ++ cs).length = cap * size ∧ (xs ++ cs).all nonInt = true)
section
variable {e size base : Nat} {W W' : World} {v : Value} {n : Nat} {xs : List Value}
theorem RowN.nil (e size base : Nat) (W : World) : RowN e size base W (.slice none 0 0) 0 [] := ⟨by simp, .inl ⟨rfl, rfl⟩⟩
theorem RowN.step (h : RowN e size base W v n xs) (hm : ∀ g, v.ownBlock = some g → g < W.heap.size → W'.heap[g]? = W.heap[g]?) : RowN e size base W' v n xs := by
 obtain ⟨h0, h⟩ := h
 refine ⟨h0, h.imp id ?_⟩
 rintro ⟨g, cap, cs, rfl, h1, h2, h3⟩
 exact ⟨g, cap, cs, rfl, h1, (hm g rfl (Array.getElem?_eq_some_iff.1 h2).1).trans h2, h3⟩
theorem RowN.below (h : RowN e size base W v n xs) (hb : Below W.heap.size W W') : RowN e size base W' v n xs := h.step fun g _ hg => hb.block g hg
theorem RowN.own (h : RowN e size base W v n xs) : W.ownsRow base e size v n xs := by
 refine ⟨h.1, h.2.imp id ?_⟩
 rintro ⟨g, cap, cs, rfl, h1, h2, h3, h4, h5, h6⟩
 exact ⟨g, cap, _, rfl, h1, h2, h3, h4, by simpa using h5, by rw [← h.1]; simp⟩
theorem RowN.ge (h : RowN e size base W v n xs) : ∀ g, v.ownBlock = some g → base ≤ g := by
 rcases h.2 with ⟨rfl, _⟩ | ⟨g, cap, cs, rfl, h1, _⟩
 ·intro g h; cases h
 ·intro g' h; cases h; exact h1
theorem zeroCells_nonInt {z : Array Value} (hz : z.toList.all nonInt = true) (n : Nat) : (Builtin.zeroCells z n).toList.all nonInt = true := by
 rw [List.all_eq_true] at hz ⊢
 intro x hx
 unfold Builtin.zeroCells at hx
 rw [Array.toList_map, List.mem_map] at hx
 obtain ⟨i, hi, rfl⟩ := hx
 rcases Nat.eq_zero_or_pos z.size with h0 | h0
 ·rw [h0] at hi; simp at hi
 ·have hlt : i % z.size < z.size := Nat.mod_lt _ h0
  rw [getElem!_pos z _ hlt]
  exact hz _ (by simp)
theorem IK.fresh {W W' : World} (h : ∀ g, g < W.heap.size → W'.heap[g]? = W.heap[g]?) : IK W W' := fun a k x e => by
 have := h a.block (World.block_lt_of_cell? W _ e)
 rw [World.cell?_of_block this]
 exact e
theorem IK.row {W : World} {g t : Nat} {cur : Array Value} (hg : W.heap[g]? = some (.cells cur t (0, 0))) (hn : cur.toList.all nonInt = true) (cs : Array Value) : IK W (W.setRow g cs) := fun a k x e => by
 by_cases h : a.block = g
 ·exfalso
  obtain ⟨b, off, spot⟩ := a
  cases h
  unfold World.cell? at e
  rw [hg] at e
  simp only at e
  split at e
  ·cases e
  ·have := List.all_eq_true.1 hn (.int k x) (List.mem_of_getElem? (i := off) (by simpa using e))
   cases this
 ·rw [World.cell?_of_block (setRow_other W g _ cs h)]
  exact e
variable {P : Program}
theorem RowN.run (t ty : TypeId) (i : TypeInfo) (z : Value) (ht : P.underlying t = some (.slice e)) (hi : P.info? e = some i) (hz : i.zero = some z) (hsize : i.size = size) (hzs : z.cells.size = size) (hsz : 0 < size) (hzn : z.cells.toList.all nonInt = true)
  (hown : RowN e size base W v n xs) (a : Addr) (c : Nat) (news : List Value) (hl : news.length = size) (hnews : ∀ j u, news[j]? = some u → W.cell? (a.add j) = some u) (h1 : ∀ u ∈ news, u.oneCell' = true) (hn : news.all nonInt = true)
  (hbytes : (n + 1) * i.bytes ≤ 140737488355328) (hb0 : 0 < i.bytes) (hbase : base ≤ W.heap.size) :
  ∃ v' w', (Builtin.append_ #[t, t] ty #[v, .slice (some a) 1 c]).run P W = .ok v' w' ∧ RowN e size base w' v' (n + 1) (xs ++ news) ∧ W.grownBy w' v.ownBlock ∧ IK W w' ∧ ∀ g, v'.ownBlock = some g → v.ownBlock = some g ∨ W.heap.size ≤ g := by
 subst hsize
 have hn1 : n + 1 ≤ 140737488355328 := Nat.le_trans (Nat.le_mul_of_pos_right _ hb0) hbytes
 have h63 : n + 1 ≤ maxLen := by simp only [maxLen]; omega
 have hlen : (xs ++ news).length = (n + 1) * i.size := by rw [List.length_append, hown.1, hl, Nat.add_mul, Nat.one_mul]
 have hzl : ∀ m, (Builtin.zeroCells z.cells m).toList.length = m * i.size := fun m => by rw [Array.length_toList, size_zeroCells, hzs]
 rcases hown.2 with ⟨rfl, rfl⟩ | ⟨g, cap, cs, rfl, hbg, hg, hnc, hcm, hcs, hall⟩
 ·have hx : xs = [] := List.eq_nil_of_length_eq_zero (by simpa using hown.1)
  subst hx
  have hr := run_append_nil (P := P) W t ty e i z ht hi hz a 1 c news (by rw [hl, Nat.one_mul]) hnews (by decide) (by decide) (by omega)
  refine ⟨_, _, hr, ⟨by simpa using hlen, .inr ⟨W.heap.size, _, (Builtin.zeroCells z.cells (grownCap W 1 0 e - 1)).toList, rfl, hbase, ?_, grownCap_ge W 1 0 e, grownCap_le_maxLen W 1 0 e h63, ?_, ?_⟩⟩, ⟨rfl, rfl, rfl, by simp, fun k hk _ => heap_alloc_old W.drew _ (show _ < W.drew.heap.size from hk)⟩, IK.fresh fun k hk => heap_alloc_old W.drew _ (show _ < W.drew.heap.size from hk), fun g hg => .inr (by cases hg; exact Nat.le_refl _)⟩
  ·rw [List.nil_append]
   have := heap_alloc_new W.drew (.cells (news.toArray ++ Builtin.zeroCells z.cells (grownCap W 1 0 e - 1)) e (0, 0))
   refine this.trans ?_
   congr 2
   apply Array.ext'
   simp
  ·have := grownCap_ge W 1 0 e
   rw [List.nil_append, List.length_append, hzl, hl, Nat.add_comm, ← Nat.succ_mul]
   congr 1
   omega
  ·rw [List.nil_append, List.all_append, hn, zeroCells_nonInt hzn, Bool.and_true]
 ·by_cases hroom : n + 1 ≤ cap
  ·have hsz' : (n + 1) * i.size ≤ cap * i.size := Nat.mul_le_mul_right _ hroom
   have hfit : n * i.size + news.length ≤ (xs ++ cs).toArray.size := by rw [hl, List.size_toArray, hcs, ← Nat.succ_mul]; exact hsz'
   have hr := run_append_room (P := P) W t ty e i ht hi g n cap _ hg a 1 c news (by rw [hl, Nat.one_mul]) hnews h1 hroom hfit
   have e1 : List.take (n * i.size) (xs ++ cs) = xs := by rw [← hown.1]; simp
   have e2 : List.drop (n * i.size + news.length) (xs ++ cs) = cs.drop news.length := by rw [← hown.1, List.drop_append, List.drop_eq_nil_of_le (by omega), List.nil_append]; congr 1; omega
   rw [e1, e2] at hr
   have hcl : cs.length = (cap - n) * i.size := by
    have := hcs
    rw [List.length_append, hown.1] at this
    rw [Nat.sub_mul]
    omega
   have hge : i.size ≤ cs.length := by
    rw [hcl]
    exact Nat.le_mul_of_pos_left _ (by omega)
   rw [List.all_append, Bool.and_eq_true] at hall
   refine ⟨_, _, hr, ⟨hlen, .inr ⟨g, cap, cs.drop news.length, rfl, hbg, setRow_heap W g _ _ e _ hg, hroom, hcm, ?_, ?_⟩⟩, ⟨rfl, rfl, rfl, by simp, fun k _ hk => setRow_other W g k _ (fun e => hk (by simp [Value.ownBlock, e]))⟩, IK.row hg (by rw [List.all_append, hall.1, hall.2]; rfl) _, fun g' hg' => .inl hg'⟩
   ·rw [List.length_append, List.length_append, List.length_drop, hl, ← hcs, List.length_append]
    omega
   ·rw [List.all_append, List.all_append, hall.1, hn, Bool.true_and, Bool.true_and]
    exact List.all_eq_true.2 fun x hx => List.all_eq_true.1 hall.2 x (List.mem_of_mem_drop hx)
  ·have holds : ∀ j u, xs[j]? = some u → W.cell? ((⟨g, 0, none⟩ : Addr).add j) = some u := hown.own.cells (g := g) rfl
   have hr := run_append_grow (P := P) W t ty e i z ht hi hz ⟨g, 0, none⟩ n cap xs hown.1 holds a 1 c news (by rw [hl, Nat.one_mul]) hnews (by omega) (by omega) (growslice_fits (by omega) hbytes)
   have hge := grownCap_ge W (n + 1) cap e
   rw [List.all_append, Bool.and_eq_true] at hall
   refine ⟨_, _, hr, ⟨hlen, .inr ⟨W.heap.size, _, (Builtin.zeroCells z.cells (grownCap W (n + 1) cap e - (n + 1))).toList, rfl, hbase, ?_, hge, grownCap_le_maxLen W (n + 1) cap e h63, ?_, ?_⟩⟩, ⟨rfl, rfl, rfl, by simp, fun k hk _ => heap_alloc_old W.drew _ (show _ < W.drew.heap.size from hk)⟩, IK.fresh fun k hk => heap_alloc_old W.drew _ (show _ < W.drew.heap.size from hk), fun g' hg' => .inr (by cases hg'; exact Nat.le_refl _)⟩
   ·refine (heap_alloc_new W.drew _).trans ?_
    congr 2
    apply Array.ext'
    simp
   ·rw [List.length_append, hlen, hzl, ← Nat.add_mul]
    congr 1
    omega
   ·rw [List.all_append, List.all_append, hall.1, hn, zeroCells_nonInt hzn]
    rfl
end
section
variable {P : Program} {ops : Array Oper} {rest : List Oper} {o : Oper} {a : Act} {Q : Exit → Act → World → Prop} {w0 W : World} {e size base n : Nat} {v : Value} {xs : List Value}
theorem RowN.append_new (hgd : o.guard = none) (s x : Operand) (t : TypeId) (z : Value) (bytes : Nat) (ho : o.op = .call { callee := .builtin .append, args := #[s, x], argTypes := #[t, t] })
  (ht : P.underlying t = some (.slice e)) (hinfo : (P.info? e).map (fun i => (i.zero, i.size, i.bytes)) = some (some z, size, bytes)) (hz : z.cells.size = size) (hzn : z.cells.toList.all nonInt = true) (hs0 : 0 < size) (hb0 : 0 < bytes)
  (ys : List Value) (hs : a.eval s = v) (hx : a.eval x = .slice (some ⟨W.heap.size, 0, none⟩) 1 1) (hys : ys.length = size) (h1 : ∀ u ∈ ys, u.oneCell' = true) (hn : ys.all nonInt = true)
  (HO : RowN e size base W v n xs) (HB : Below base w0 W) (hbase : base ≤ W.heap.size) (hl : (n + 1) * bytes ≤ 140737488355328)
  (h : ∀ v1 w1, RowN e size base w1 v1 (n + 1) (xs ++ ys) → Below base w0 w1 → IK W w1 → W.grownBy w1 v.ownBlock → (∀ g, v1.ownBlock = some g → v.ownBlock = some g ∨ W.heap.size ≤ g) → wpList P ops Q rest (a.put o.dst v1) w1) :
  wpList P ops Q (o :: rest) a (W.alloc (.cells ys.toArray e)) := by
 obtain ⟨i0, hi, hzz⟩ := Option.map_eq_some_iff.1 hinfo
 simp only [Prod.mk.injEq] at hzz
 obtain ⟨hz0, hz1, hz2⟩ := hzz
 subst hz2
 have HO' : RowN e size base (W.alloc (.cells ys.toArray e)) v n xs := HO.below (below_alloc (Below.refl _ _) _)
 obtain ⟨v1, w1, hr, h2, h3, h4, h5⟩ := RowN.run (W := W.alloc (.cells ys.toArray e)) t o.type i0 z ht hi hz0 hz1 hz hs0 hzn HO' ⟨W.heap.size, 0, none⟩ 1 ys hys
  (by simpa using World.news_of_block (cs := ys.toArray) (t := e) (fr := (0, 0)) (heap_alloc_new W (.cells ys.toArray e))) h1 hn hl hb0 (by simp; omega)
 refine wpList_plain hgd fun K hK => ?_
 unfold Oper.wp execOp
 simp only [ho, resolve, invoke, builtin, Sem.run_bind, Sem.run_pure, Result.andThen_ok, List.map_toArray, List.map_cons, List.map_nil, hs, hx, hr]
 exact hK _ _ (h v1 w1 h2 ((HB.alloc hbase _).grown h3 (by simp; omega) HO.ge) ((IK.alloc W _).trans h4) (World.grownBy.trans (World.grownBy_alloc W _ _) h3) fun g hg => (h5 g hg).imp id fun h => Nat.le_trans (by simp) h)
theorem RowN.append (hgd : o.guard = none) (s x : Operand) (t : TypeId) (z : Value) (bytes : Nat) (ho : o.op = .call { callee := .builtin .append, args := #[s, x], argTypes := #[t, t] })
  (ht : P.underlying t = some (.slice e)) (hinfo : (P.info? e).map (fun i => (i.zero, i.size, i.bytes)) = some (some z, size, bytes)) (hz : z.cells.size = size) (hzn : z.cells.toList.all nonInt = true) (hs0 : 0 < size) (hb0 : 0 < bytes)
  (ys : List Value) (hs : a.eval s = v) (hx : a.eval x = .slice (some ⟨W.heap.size, 0, none⟩) 1 1) (hys : ys.length = size) (h1 : ∀ u ∈ ys, u.oneCell' = true) (hn : ys.all nonInt = true)
  (HO : RowN e size base W v n xs) (HB : Below base w0 W) (hbase : base ≤ W.heap.size) (hl : (n + 1) * bytes ≤ 140737488355328)
  (h : ∀ v1 w1, RowN e size base w1 v1 (n + 1) (xs ++ ys) → Below base w0 w1 → IK W w1 → W.grownBy w1 v.ownBlock → wpList P ops Q rest (a.put o.dst v1) w1) :
  wpList P ops Q (o :: rest) a (W.alloc (.cells ys.toArray e)) :=
 RowN.append_new hgd s x t z bytes ho ht hinfo hz hzn hs0 hb0 ys hs hx hys h1 hn HO HB hbase hl fun v1 w1 a1 a2 a3 a4 _ => h v1 w1 a1 a2 a3 a4
end
def RowB (v : Value) (xs : List ByteArray) (bo : List (Nat × List Value × Nat)) : Prop := (v = .slice none 0 0 ∧ xs = [] ∧ bo = []) ∨
 ∃ g cap cs, v = .slice (some ⟨g, 0, none⟩) xs.length cap ∧ bo = [(g, xs.map Value.string ++ cs, 22)] ∧ xs.length ≤ cap ∧ cap ≤ maxLen ∧ (xs.map Value.string ++ cs).length = cap
theorem RowB.nil : RowB (.slice none 0 0) [] [] := .inl ⟨rfl, rfl, rfl⟩
theorem Bxs.sub {w W : World} : ∀ {bx bx' : List (Nat × List Value × Nat)}, bx'.Sublist bx → Bxs w W bx → Bxs w W bx'
 |_, _, .slnil, h => h
 |_, _, .cons a s, h => Bxs.sub s h.2
 |_, _, .cons_cons a s, h => ⟨⟨h.1.1, h.1.2.1, h.1.2.2.1, fun b hb => h.1.2.2.2 b (s.subset hb)⟩, Bxs.sub s h.2⟩
theorem Env.sub {w W : World} {rows rows' : List (World → Prop)} {bx bx' : List (Nat × List Value × Nat)} (E : Env w W rows bx) (hr : ∀ P ∈ rows', P ∈ rows) (hb : bx'.Sublist bx) : Env w W rows' bx' := ⟨E.below, fun P h => E.rows P (hr P h), E.bxs.sub hb⟩
theorem Bxs.keep {w W W' : World} : ∀ {bx : List (Nat × List Value × Nat)}, (∀ b ∈ bx, W'.heap[b.1]? = W.heap[b.1]?) → Bxs w W bx → Bxs w W' bx
 |[], _, _ => trivial
 |b :: r, k, ⟨⟨h1, h2, h3, h4⟩, h⟩ => ⟨⟨h1, (k b List.mem_cons_self).trans h2, h3, h4⟩, Bxs.keep (fun b' hb => k b' (List.mem_cons_of_mem _ hb)) h⟩
theorem Bxs.left {w W : World} : ∀ {a b : List (Nat × List Value × Nat)}, Bxs w W (a ++ b) → Bxs w W a
 |[], _, _ => trivial
 |x :: a, b, h => ⟨⟨h.1.1, h.1.2.1, h.1.2.2.1, fun y hy => h.1.2.2.2 y (List.mem_append_left _ hy)⟩, Bxs.left h.2⟩
theorem Bxs.over {w W : World} : ∀ {a b : List (Nat × List Value × Nat)}, Bxs w W (a ++ b) → ∀ x ∈ a, ∀ y ∈ b, y.1 < x.1
 |c :: a, b, h, x, hx, y, hy => by
  rcases List.mem_cons.1 hx with rfl | hx
  ·exact h.1.2.2.2 y (List.mem_append_right _ hy)
  ·exact Bxs.over h.2 x hx y hy
theorem Bxs.snoc {w W : World} {g : Nat} {cs : List Value} {t : Nat} (h0 : w.heap.size ≤ g) (h1 : W.heap[g]? = some (.cells cs.toArray t (0, 0))) (h2 : cs.all nonInt = true) : ∀ {a : List (Nat × List Value × Nat)}, Bxs w W a → (∀ x ∈ a, g < x.1) → Bxs w W (a ++ [(g, cs, t)])
 |[], _, _ => ⟨⟨h0, h1, h2, fun b hb => by cases hb⟩, trivial⟩
 |x :: a, h, k => ⟨⟨h.1.1, h.1.2.1, h.1.2.2.1, fun y hy => by
   rcases List.mem_append.1 hy with hy | hy
   ·exact h.1.2.2.2 y hy
   ·obtain rfl := List.mem_singleton.1 hy
    exact k x List.mem_cons_self⟩, Bxs.snoc h0 h1 h2 h.2 fun y hy => k y (List.mem_cons_of_mem _ hy)⟩
theorem Clb.skip {W : World} {P : Prop} : ∀ {g i : Nat} {cs : List Value}, Clb W g i cs P → P
 |_, _, [], h => h
 |_, _, _ :: _, h => Clb.skip h.2.2
section
variable {w W : World} {rows : List (World → Prop)} {b0 b1 b2 b3 b4 : Nat × List Value × Nat} {r : List (Nat × List Value × Nat)}
theorem Env.cls02 (E : Env w W rows (b0 :: b1 :: b2 :: r)) : Cls W [b0, b2] := (E.sub (fun P h => h) (.cons_cons _ (.cons _ (.cons_cons _ (List.nil_sublist _))))).cls
theorem Env.cls03 (E : Env w W rows (b0 :: b1 :: b2 :: b3 :: r)) : Cls W [b0, b3] := (E.sub (fun P h => h) (.cons_cons _ (.cons _ (.cons _ (.cons_cons _ (List.nil_sublist _)))))).cls
theorem Env.cls13 (E : Env w W rows (b0 :: b1 :: b2 :: b3 :: r)) : Cls W [b1, b3] := (E.sub (fun P h => h) (.cons _ (.cons_cons _ (.cons _ (.cons_cons _ (List.nil_sublist _)))))).cls
theorem Env.cls14 (E : Env w W rows (b0 :: b1 :: b2 :: b3 :: b4 :: r)) : Cls W [b1, b4] := (E.sub (fun P h => h) (.cons _ (.cons_cons _ (.cons _ (.cons _ (.cons_cons _ (List.nil_sublist _))))))).cls
end
theorem in2 {α : Type} {a b : α} {l : List α} (h1 : a ∈ l) (h2 : b ∈ l) : ∀ P ∈ [a, b], P ∈ l := fun P h => by
 rcases List.mem_cons.1 h with rfl | h
 ·exact h1
 ·obtain rfl := List.mem_singleton.1 h
  exact h2
theorem in4 {α : Type} {a b c d : α} {l : List α} (h1 : a ∈ l) (h2 : b ∈ l) (h3 : c ∈ l) (h4 : d ∈ l) : ∀ P ∈ [a, b, c, d], P ∈ l := fun P h => by
 rcases List.mem_cons.1 h with rfl | h
 ·exact h1
 rcases List.mem_cons.1 h with rfl | h
 ·exact h2
 exact in2 h3 h4 P h
section
variable {w W : World} {rows : List (World → Prop)} {pre bo : List (Nat × List Value × Nat)} {v : Value} {xs : List ByteArray}
theorem RowB.row (E : Env w W rows (pre ++ bo)) (h : RowB v xs bo) : RowN 22 1 w.heap.size W v xs.length (xs.map Value.string) := by
 rcases h with ⟨rfl, rfl, rfl⟩ | ⟨g, cap, cs, rfl, rfl, h1, h2, h3⟩
 ·exact RowN.nil _ _ _ _
 ·obtain ⟨k1, k2, k3⟩ := E.bxs.at (i := pre.length) (g := g) (cs := xs.map Value.string ++ cs) (t := 22) (by simp)
  exact ⟨by simp, .inr ⟨g, cap, cs, rfl, k1, k2, h1, h2, by omega, k3⟩⟩
theorem RowB.C (E : Env w W rows (pre ++ bo)) (h : RowB v xs bo) (hl : xs.length ≤ maxLen) : ∃ A c, v = .slice A xs.length c ∧ Kd.C Kd.string W A xs.length xs := by
 rcases h with ⟨rfl, rfl, rfl⟩ | ⟨g, cap, cs, rfl, rfl, h1, h2, h3⟩
 ·exact ⟨none, 0, rfl, Kd.C_nil _ _⟩
 ·obtain ⟨k1, k2, k3⟩ := E.bxs.at (i := pre.length) (g := g) (cs := xs.map Value.string ++ cs) (t := 22) (by simp)
  refine ⟨_, _, rfl, rfl, hl, fun _ => ⟨_, rfl, fun j p hp => ⟨[.string p], rfl, rfl, fun i u hu => ?_⟩⟩⟩
  have hi : i = 0 := by
   rcases i with _ | i
   ·rfl
   ·simp at hu
  subst hi
  have hu' : u = .string p := by simpa using hu.symm
  subst hu'
  have hj : j < xs.length := (List.getElem?_eq_some_iff.1 hp).1
  have := blk_cell k2 j
  simp only [Addr.add_lit, Nat.zero_add, Nat.add_zero]
  rw [show j * Kd.string.sz = j from Nat.mul_one j, this]
  simp only [List.size_toArray, List.getElem?_toArray, List.getElem?_append_left (show j < (xs.map Value.string).length by simpa using hj), List.getElem?_map, hp]
  rfl
variable {P : Program} {ops : Array Oper} {rest : List Oper} {o : Oper} {a : Act} {Q : Exit → Act → World → Prop}
theorem RowB.append (E : Env w W rows (pre ++ bo)) (HV : RowB v xs bo) (s x : Operand) (t : TypeId) (y : ByteArray) (hgd : o.guard = none) (ho : o.op = .call { callee := .builtin .append, args := #[s, x], argTypes := #[t, t] })
  (ht : P.underlying t = some (.slice 22)) (hinfo : (P.info? 22).map (fun i => (i.zero, i.size, i.bytes)) = some (some (.string ByteArray.empty), 1, 16))
  (hs : a.eval s = v) (hx : a.eval x = .slice (some ⟨W.heap.size, 0, none⟩) 1 1) (hl : xs.length < 1000000000000)
  (h : ∀ v1 bx1 bo1 w1, Env w w1 rows bx1 → RowB v1 (xs ++ [y]) bo1 → (bx1 = pre ++ bo1 ∨ ∃ g cs, bo1 = [(g, cs, 22)] ∧ bx1 = (g, cs, 22) :: pre) → wpList P ops Q rest (a.put o.dst v1) w1) :
  wpList P ops Q (o :: rest) a (W.alloc (.cells #[.string y] 22)) := by
 refine RowN.append_new (w0 := w) (base := w.heap.size) (ys := [.string y]) (z := .string ByteArray.empty) (size := 1) (bytes := 16) hgd s x t ho ht hinfo rfl (by rfl) (by decide) (by decide) hs hx rfl (by intro u hu; obtain rfl := List.mem_singleton.1 hu; rfl) rfl (RowB.row E HV) E.below E.below.size (by omega) ?_
 intro v1 w1 hn hb hik hg hnew
 obtain ⟨hlen, hn⟩ := hn
 rcases hn with ⟨-, h0⟩ | ⟨g, cap, cs, rfl, k1, k2, k3, k4, k5, k6⟩
 ·exact absurd h0 (by omega)
 have hc : (xs ++ [y]).map Value.string ++ cs = xs.map Value.string ++ [.string y] ++ cs := by simp
 have hne : ∀ b ∈ pre, v.ownBlock ≠ some b.1 := fun b hb e => by
  rcases HV with ⟨rfl, -, -⟩ | ⟨g', cap', cs', rfl, rfl, -⟩
  ·cases e
  ·have := E.bxs.over b hb _ List.mem_cons_self
   have e' : g' = b.1 := Option.some.inj e
   simp only at this
   omega
 have hpre : Bxs w w1 pre := Bxs.keep (fun b hb => hg.block b.1 (Bxs.lt E.bxs.left b hb) (fun e => hne b hb e.symm)) E.bxs.left
 have hrows : ∀ P ∈ rows, St P w1 := fun P hP V hV => E.rows P hP V (hik.trans hV)
 have HB : ∀ cap, RowB (.slice (some ⟨g, 0, none⟩) (xs.length + 1) cap) (xs ++ [y]) [(g, xs.map Value.string ++ [.string y] ++ cs, 22)] ↔ RowB (.slice (some ⟨g, 0, none⟩) (xs.length + 1) cap) (xs ++ [y]) [(g, (xs ++ [y]).map Value.string ++ cs, 22)] := fun cap => by rw [hc]
 have HB' : RowB (.slice (some ⟨g, 0, none⟩) (xs.length + 1) cap) (xs ++ [y]) [(g, xs.map Value.string ++ [.string y] ++ cs, 22)] := by
  refine .inr ⟨g, cap, cs, by simp, by rw [hc], by simpa using k3, k4, by rw [hc, k5]; omega⟩
 rcases hnew g rfl with e | e
 ·refine h _ (pre ++ [(g, xs.map Value.string ++ [.string y] ++ cs, 22)]) [(g, xs.map Value.string ++ [.string y] ++ cs, 22)] w1 ⟨hb, hrows, Bxs.snoc k1 k2 k6 hpre fun b hb => ?_⟩ HB' (.inl rfl)
  rcases HV with ⟨rfl, -, -⟩ | ⟨g', cap', cs', rfl, rfl, -⟩
  ·cases e
  ·obtain rfl : g' = g := Option.some.inj e
   exact E.bxs.over b hb _ List.mem_cons_self
 ·exact h _ ((g, xs.map Value.string ++ [.string y] ++ cs, 22) :: pre) [(g, xs.map Value.string ++ [.string y] ++ cs, 22)] w1 ⟨hb, hrows, ⟨k1, k2, k6, fun b hb => by have := Bxs.lt E.bxs.left b hb; omega⟩, hpre⟩ HB' (.inr ⟨g, _, rfl, rfl⟩)
end
end Go.Proofs.YtfmcgammhfdfnaaGreatDoor.PRatio
namespace Go.Proofs.YtfmcgammhfdfnaaGreatDoor.PRatio
open Go.RowKit Go.Proofs.YtfmcgammhfdfnaaGreatDoorW.PrintWords
set_option linter.unusedVariables false
set_option linter.unusedSimpArgs false
def cfF : Nat → Int → Int → List Int
 |0, _, _ => []
 |k + 1, n, d => if d = 0 then [] else n / d :: cfF k d (n % d)
def cf (n d : Int) : List Int := cfF (d.natAbs + 1) n d
theorem emod_less {n d : Int} (hd : 0 < d) : 0 ≤ n % d ∧ n % d < d := ⟨Int.emod_nonneg n (by omega), Int.emod_lt_of_pos n hd⟩
theorem cfF_big : ∀ (k k' : Nat) {n d : Int}, 0 ≤ d → d.natAbs < k → d.natAbs < k' → cfF k n d = cfF k' n d
 |0, _, _, _, _, h, _ => absurd h (by omega)
 |_ + 1, 0, _, _, _, _, h => absurd h (by omega)
 |k + 1, k' + 1, n, d, h0, h, h' => by
  rw [cfF, cfF]
  split
  ·rfl
  next hd =>
   have := emod_less (n := n) (d := d) (by omega)
   rw [cfF_big k k' this.1 (by omega) (by omega)]
theorem cf_zero (n : Int) : cf n 0 = [] := rfl
theorem cf_step {n d : Int} (h : 0 < d) : cf n d = n / d :: cf d (n % d) := by
 have := emod_less (n := n) h
 unfold cf
 rw [cfF, if_neg (by omega), cfF_big d.natAbs ((n % d).natAbs + 1) this.1 (by omega) (by omega)]
theorem cf_rec {P : Int → Int → Prop} (h0 : ∀ n, P n 0) (h1 : ∀ n d, 0 < d → P d (n % d) → P n d) : ∀ (k : Nat) (n d : Int), 0 ≤ d → d.natAbs < k → P n d
 |0, _, _, _, h => absurd h (by omega)
 |k + 1, n, d, hd, h => by
  by_cases e : d = 0
  ·subst e; exact h0 n
  ·have := emod_less (n := n) (d := d) (by omega)
   exact h1 n d (by omega) (cf_rec h0 h1 k d (n % d) this.1 (by omega))
def cvS (s : (Int × Int) × (Int × Int)) (c : Int) : (Int × Int) × (Int × Int) := ((s.1.1 * c + s.1.2, s.1.1), (s.2.1 * c + s.2.2, s.2.1))
def cv (l : List Int) : (Int × Int) × (Int × Int) := l.foldl cvS ((1, 0), (0, 1))
theorem cv_snoc (l : List Int) (c : Int) : cv (l ++ [c]) = cvS (cv l) c := by simp [cv, List.foldl_append]
theorem cv_cf {n d : Int} (hd : 0 ≤ d) : ∀ s : (Int × Int) × (Int × Int), ∃ g : Int, g * ((cf n d).foldl cvS s).1.1 = s.1.1 * n + s.1.2 * d ∧ g * ((cf n d).foldl cvS s).2.1 = s.2.1 * n + s.2.2 * d := by
 refine cf_rec (P := fun n d => ∀ s : (Int × Int) × (Int × Int), ∃ g : Int, g * ((cf n d).foldl cvS s).1.1 = s.1.1 * n + s.1.2 * d ∧ g * ((cf n d).foldl cvS s).2.1 = s.2.1 * n + s.2.2 * d) ?_ ?_ (d.natAbs + 1) n d hd (by omega)
 ·intro n s
  exact ⟨n, by rw [cf_zero, List.foldl_nil, Int.mul_comm]; omega, by rw [cf_zero, List.foldl_nil, Int.mul_comm]; omega⟩
 ·intro n d h ih s
  obtain ⟨g, h1, h2⟩ := ih (cvS s (n / d))
  have e := Int.mul_ediv_add_emod n d
  refine ⟨g, ?_, ?_⟩
  ·rw [cf_step h, List.foldl_cons, h1]
   show (s.1.1 * (n / d) + s.1.2) * d + s.1.1 * (n % d) = _
   conv => rhs; rw [← e]
   rw [Int.add_mul, Int.mul_add, Int.mul_assoc, Int.mul_comm (n / d) d]
   omega
  ·rw [cf_step h, List.foldl_cons, h2]
   show (s.2.1 * (n / d) + s.2.2) * d + s.2.1 * (n % d) = _
   conv => rhs; rw [← e]
   rw [Int.add_mul, Int.mul_add, Int.mul_assoc, Int.mul_comm (n / d) d]
   omega
theorem cv_div {n d : Int} (hd : 0 < d) : (cv (cf n d)).2.1 ≠ 0 ∧ Rat.divInt (cv (cf n d)).1.1 (cv (cf n d)).2.1 = Rat.divInt n d := by
 obtain ⟨g, h1, h2⟩ := cv_cf (n := n) (d := d) (by omega) ((1, 0), (0, 1))
 have h1' : g * (cv (cf n d)).1.1 = n := h1.trans (by simp)
 have h2' : g * (cv (cf n d)).2.1 = d := h2.trans (by simp)
 have hg : g ≠ 0 := fun e => by rw [e] at h2'; omega
 have hn : (cv (cf n d)).2.1 ≠ 0 := fun e => by rw [e] at h2'; omega
 refine ⟨hn, ?_⟩
 rw [Rat.divInt_eq_divInt_iff hn (by omega)]
 generalize (cv (cf n d)).1.1 = x at h1' ⊢
 generalize (cv (cf n d)).2.1 = y at h2' ⊢
 rw [← h1', ← h2', Int.mul_left_comm x g y, Int.mul_assoc g x y]
theorem cf_tail {n d : Int} (h0 : 0 ≤ d) (h : d < n) : ∀ i c, (cf n d)[i]? = some c → 0 < c ∧ (i + 1 = (cf n d).length → c ≠ 1) := by
 refine cf_rec (P := fun n d => d < n → ∀ i c, (cf n d)[i]? = some c → 0 < c ∧ (i + 1 = (cf n d).length → c ≠ 1)) ?_ ?_ (d.natAbs + 1) n d h0 (by omega) h
 ·intro n _ i c hi
  rw [cf_zero] at hi
  cases hi
 ·intro n d hd ih hlt i c hi
  have hm := emod_less (n := n) hd
  rw [cf_step hd] at hi ⊢
  rcases i with _ | i
  ·obtain rfl : n / d = c := by simpa using hi
   have hq : 0 < n / d := by
    have := Int.ediv_le_ediv hd (Int.le_of_lt hlt)
    rw [Int.ediv_self (by omega)] at this
    omega
   refine ⟨hq, fun hl e => ?_⟩
   have hz : n % d = 0 := by
    by_cases z : n % d = 0
    ·exact z
    ·rw [cf_step (by omega)] at hl
     simp at hl
   have := Int.mul_ediv_add_emod n d
   rw [e, hz] at this
   omega
  ·have := ih hm.2 i c (by simpa using hi)
   exact ⟨this.1, fun hl => this.2 (by simpa using hl)⟩
theorem cf_len {n d : Int} (h0 : 0 ≤ d) (h : d < n) : ∀ k : Nat, n * d < 2 ^ k → (cf n d).length ≤ k := by
 refine cf_rec (P := fun n d => d < n → ∀ k : Nat, n * d < 2 ^ k → (cf n d).length ≤ k) ?_ ?_ (d.natAbs + 1) n d h0 (by omega) h
 ·intro n _ k _
  rw [cf_zero]
  exact Nat.zero_le _
 ·intro n d hd ih hlt k hk
  have hm := emod_less (n := n) hd
  rw [cf_step hd, List.length_cons]
  rcases k with _ | k
  ·exfalso
   have : 1 * 1 ≤ n * d := Int.mul_le_mul (by omega) (by omega) (by decide) (by omega)
   simp at hk
   omega
  ·have : (cf d (n % d)).length ≤ k := by
    refine ih hm.2 k ?_
    have e := Int.mul_ediv_add_emod n d
    have hq : d * 1 ≤ d * (n / d) := Int.mul_le_mul_of_nonneg_left (by
     have := Int.ediv_le_ediv hd (Int.le_of_lt hlt)
     rw [Int.ediv_self (by omega)] at this
     exact this) (by omega)
    have h2 : 2 * (n % d) ≤ n := by omega
    have h3 : d * (2 * (n % d)) ≤ d * n := Int.mul_le_mul_of_nonneg_left h2 (by omega)
    rw [Int.mul_left_comm] at h3
    rw [Int.mul_comm n d, Int.pow_succ] at hk
    omega
   omega
theorem cf_length {n d : Int} {k : Nat} (hd : 0 < d) (h : d * d < 2 ^ k) : (cf n d).length ≤ k + 1 := by
 have hm := emod_less (n := n) hd
 rw [cf_step hd, List.length_cons]
 have := cf_len hm.1 hm.2 k (by
  have : d * (n % d) ≤ d * d := Int.mul_le_mul_of_nonneg_left (by omega) (by omega)
  omega)
 omega
end Go.Proofs.YtfmcgammhfdfnaaGreatDoor.PRatio
namespace Go.Proofs.YtfmcgammhfdfnaaGreatDoor.PRatio
open Go.RowKit Go.Proofs.YtfmcgammhfdfnaaGreatDoorW.PrintWords Go.Proofs.YtfmcgammhfdfnaaGreatDoorW.PrintLast Go.Proofs.YtfmcgammhfdfnaaGreatDoorW.PrintMore
attribute [local go_sem] max2_int min2_int max_two min_two max_three min_three max_four min_four
set_option linter.unusedVariables false
set_option linter.unusedSimpArgs false
def num_trim.l0 : Nat → List Int → Option (List Int)
 |0, _ => none
 |k + 1, x0 => if (x0.length : Int) > 0 then (if 0 ≤ (wrap64 ((x0.length : Int) - 1)) then (if (wrap64 ((x0.length : Int) - 1)) < (x0.length : Int) then (if (rd x0 (wrap64 ((x0.length : Int) - 1))) = 0 then (if (wrap64 ((x0.length : Int) - 1)) ≤ (x0.length : Int) then (num_trim.l0 k (x0.take ((wrap64 ((x0.length : Int) - 1)) : Int).toNat)) else (none)) else (some x0)) else (none)) else (none)) else (some x0)
def num_trim.f (k : Nat) (l0 : List Int) : Option (List Int) := num_trim.l0 k l0
set_option maxHeartbeats 8000000 in
set_option maxRecDepth 100000 in
theorem num_trim.calls (k : Nat) (P0_ : Nat → Prop) (A0 : Option Addr) (c0 : Nat) (l0 : List Int) (r : List Int) (w : World) (hs0 : Kd.V (Kd.int .u32) 145 w w.heap.size (fun k_ => P0_ k_) (.slice A0 l0.length c0) l0) (h : num_trim.f k l0 = some r) :
  Calls Tryz.prog 185 #[.slice A0 l0.length c0] w fun e w' => ∃ v0_ : Value, e = .returned (v0_) ∧ Kd.V (Kd.int .u32) 145 w' w.heap.size (fun k_ => (P0_ k_ ∨ w.heap.size ≤ k_)) v0_ r ∧ Below w.heap.size w w' := by
 have HO0 := Aside0.mk (show Kd.V (Kd.int .u32) 145 w w.heap.size (fun k_ => (P0_ k_ ∨ w.heap.size ≤ k_)) (.slice A0 l0.length c0) l0 from Kd.V_mono hs0 (fun k_ hk => .inl hk))
 have HB := Aside0.mk (Below.refl w.heap.size w)
 have H : (num_trim.l0 k l0) = some r := h
 clear h
 have H' := Aside0.mk H
 clear H
 go_enter Tryz.func185, Tryz.ntmps185
 go_wp2
 go_loopg [0] k (fun kq v0 w' => ∃ (x0_1 : List Int), Aside0 (num_trim.l0 kq x0_1 = some r) ∧ Aside0 (kq ≤ k) ∧ Aside0 (Kd.V (Kd.int .u32) 145 w' w.heap.size (fun k_ => (P0_ k_ ∨ w.heap.size ≤ k_)) v0 x0_1) ∧ Aside0 (Below w.heap.size w w'))
 case atStart => exact ⟨(l0), H', ⟨Nat.le_refl _⟩, ⟨rVa_ HO0.out⟩, ⟨bw_⟩⟩
 case round =>
  clear H'
  try clear c1
  obtain ⟨x0_1, HA, HK1, HO_0, HB⟩ := hrel
  cases gk with
  |zero => exact absurd HA.out (by simp [num_trim.l0])
  |succ k1 =>
   have H := HA.out
   clear HA
   simp only [num_trim.l0] at H
   by_cases c2 : (x0_1.length : Int) > 0
   ·rw [if_pos c2] at H
    have c2b0 : decide (0 < (x0_1.length : Int)) = true := decide_eq_true c2
    have c2b1 : decide (0 < x0_1.length) = true := decide_eq_true (by omega)
    clear c2
    obtain ⟨ji3, hji3⟩ : ∃ j_ : Int, (wrap64 ((x0_1.length : Int) - 1)) = j_ := ⟨_, rfl⟩
    replace H : (if 0 ≤ (ji3) then (if (ji3) < (x0_1.length : Int) then (if (rd x0_1 (ji3)) = 0 then (if (ji3) ≤ (x0_1.length : Int) then (num_trim.l0 k1 (x0_1.take ((ji3) : Int).toNat)) else (none)) else (some x0_1)) else (none)) else (none)) = some r := by first | (rw [hji3] at H; exact H) | (simp only [hji3] at H ⊢; exact H)
    have hji3w : (IntKind.i64.wrap ((x0_1.length : Int) - 1)) = ji3 := (i64_w _).trans hji3
    by_cases c4 : 0 ≤ (ji3)
    ·rw [if_pos c4] at H
     have c4b0 : decide (0 ≤ (ji3)) = true := decide_eq_true c4
     clear c4
     by_cases c5 : (ji3) < (x0_1.length : Int)
     ·rw [if_pos c5] at H
      have c5b0 : decide ((ji3) < (x0_1.length : Int)) = true := decide_eq_true c5
      clear c5
      by_cases c6 : (rd x0_1 (ji3)) = 0
      ·rw [if_pos c6] at H
       have c6b0 : ((rd x0_1 (ji3)) == 0) = true := beq_iff_eq.mpr c6
       have c6b1 : ((rd x0_1 (ji3)) != 0) = false := bne_eq_false_iff_eq.mpr c6
       clear c6
       have c7b0 := eq_true (of_decide_eq_true as_ : 0 ≤ (ji3))
       by_cases c8 : (ji3) ≤ (x0_1.length : Int)
       ·rw [if_pos c8] at H
        have c8b0 := eq_true c8
        have c8b1 : decide ((ji3) ≤ (x0_1.length : Int)) = true := decide_eq_true c8
        clear c8
        obtain ⟨y114, hy114⟩ : ∃ y_ : List Int, y_ = (x0_1.take ((ji3) : Int).toNat) := ⟨_, rfl⟩
        replace H : (num_trim.l0 k1 y114) = some r := by first | (rw [hy114]; with_reducible exact H) | (have H2_ := (Option.bind_some _ _).symm.trans H; rw [hy114]; with_reducible exact H2_) | (have H2_ := (Option.bind_some _ _).symm.trans H; with_reducible exact H2_) | with_reducible exact H | (rw [hy114]; exact H) | exact H
        have Ny114 := Aside0.mk hy114
        clear hy114
        have H' := Aside0.mk H
        clear H
        obtain ⟨Ao9, co9, eo9⟩ := Kd.V_slice HO_0.out
        subst eo9
        have p113 : 0 ≤ ((ji3) : Int) := of_decide_eq_true as_
        have q113 : (ji3) < (x0_1.length : Int) := of_decide_eq_true as_
        obtain ⟨ad113, e113, hx113_0⟩ := Kd.at_int (Kd.V_reads' HO_0.out).2.2 (ji3) p113 q113
        cases e113
        replace p113 := eq_true p113
        replace q113 := eq_true q113
        have q10 : ((ji3) : Int) ≤ ((x0_1.length : Int) : Int) := of_decide_eq_true as_
        obtain ⟨i010, hi010, _, hsz10, _⟩ := info_parts info145
        have hroom10 : x0_1.length ≤ co9 := (Kd.V_reads' HO_0.out).2.1
        have hC10 : Kd.F (Kd.int .u32) _ _ (some ad113) x0_1.length x0_1 := (Kd.V_at (base := w.heap.size) HO_0.out).2.2
        have hcut10 := cut_to (P := Tryz.prog) 75 145 .i64 Tryz.underlying75 hi010 (some ad113) x0_1.length co9 (ji3) (of_decide_eq_true as_) q10 hroom10
        have hr10 := Kd.F_take (m := ((ji3) : Int).toNat) hC10 (by omega)
        have hy10 : y114.length = ((ji3) : Int).toNat := (by rw [Ny114.out, List.length_take]; omega)
        rw [← Ny114.out] at hr10
        rw [← hy10] at hcut10
        have HO118 := Aside0.mk (show Kd.V (Kd.int .u32) 145 _ w.heap.size _ (.slice (some ad113) y114.length co9) y114 from Kd.V_mk (by omega) hr10)
        have HC118 := Aside0.mk (show y114.length ≤ co9 from by omega)
        clear hr10 hC10 hroom10 hi010 hsz10
        have KY10 := Aside0.mk hy10
        clear hy10
        replace q10 := eq_true q10
        go_wp2
        go_roundg k1
        case measure => have := HK1.out; omega
        case rel => exact ⟨(y114), H', ⟨by have := HK1.out; omega⟩, ⟨rVa_ HO118.out⟩, ⟨bw_⟩⟩
       ·rw [if_neg c8] at H
        exact absurd H (by simp)
      ·rw [if_neg c6] at H
       have c6b0 : ((rd x0_1 (ji3)) == 0) = false := beq_eq_false_iff_ne.mpr c6
       have c6b1 : ((rd x0_1 (ji3)) != 0) = true := bne_iff_ne.mpr c6
       obtain rfl := Option.some.inj H
       obtain ⟨Ao11, co11, eo11⟩ := Kd.V_slice HO_0.out
       subst eo11
       have p113 : 0 ≤ ((ji3) : Int) := of_decide_eq_true as_
       have q113 : (ji3) < (x0_1.length : Int) := of_decide_eq_true as_
       obtain ⟨ad113, e113, hx113_0⟩ := Kd.at_int (Kd.V_reads' HO_0.out).2.2 (ji3) p113 q113
       cases e113
       replace p113 := eq_true p113
       replace q113 := eq_true q113
       go_wp2
       go_ret
       exact ⟨_, by first | rfl | (simp [errW_none, errW_some] <;> rfl) | (simp only [← hji3]; first | rfl | (simp [errW_none, errW_some] <;> rfl)) | (simp [*, errW_none, errW_some] <;> rfl), rVa_ HO_0.out, bw_⟩
     ·rw [if_neg c5] at H
      exact absurd H (by simp)
    ·rw [if_neg c4] at H
     exact absurd H (by simp)
   ·rw [if_neg c2] at H
    have c2b0 : decide (0 < (x0_1.length : Int)) = false := decide_eq_false c2
    have c2b1 : decide (0 < x0_1.length) = false := decide_eq_false (by omega)
    clear c2
    obtain rfl := Option.some.inj H
    obtain ⟨Ao12, co12, eo12⟩ := Kd.V_slice HO_0.out
    subst eo12
    go_wp2
    go_ret
    exact ⟨_, by first | rfl | (simp [errW_none, errW_some] <;> rfl) | (simp [*, errW_none, errW_some] <;> rfl), rVa_ HO_0.out, bw_⟩
attribute [local go_sem] max2_int min2_int max_two min_two max_three min_three max_four min_four
set_option linter.unusedVariables false
set_option linter.unusedSimpArgs false
def num_size.l0 : Nat → List Int → List Int → Int → Option (Int)
 |0, _, _, _ => none
 |k + 1, x0, x1, x5 => if x5 ≥ 0 then (if 0 ≤ x5 then (if x5 < (x0.length : Int) then (if x5 < (x1.length : Int) then (if (rd x0 x5) = (rd x1 x5) then (num_size.l0 k x0 x1 (wrap64 (x5 - 1))) else (if (rd x0 x5) < (rd x1 x5) then (some (-1)) else (some 1))) else (none)) else (none)) else (none)) else (some 0)
def num_size.f (k : Nat) (l0 : List Int) (l1 : List Int) : Option (Int) := if (l0.length : Int) = (l1.length : Int) then (num_size.l0 k l0 l1 (wrap64 ((l0.length : Int) - 1))) else (if (l0.length : Int) < (l1.length : Int) then (some (-1)) else (some 1))
set_option maxHeartbeats 8000000 in
set_option maxRecDepth 100000 in
theorem num_size.calls (k : Nat) (A0 : Option Addr) (c0 : Nat) (l0 : List Int) (A1 : Option Addr) (c1 : Nat) (l1 : List Int) (r : Int) (w : World) (hr0 : Kd.C (Kd.int .u32) w A0 l0.length l0) (hc0 : l0.length ≤ c0) (hr1 : Kd.C (Kd.int .u32) w A1 l1.length l1) (hc1 : l1.length ≤ c1) (h : num_size.f k l0 l1 = some r) :
  Calls Tryz.prog 172 #[.slice A0 l0.length c0, .slice A1 l1.length c1] w fun e w' => e = .returned (.int .i64 r) ∧ Drawn0 w w' := by
 have HR0 := Aside0.mk hr0
 have HC0 := Aside0.mk hc0
 clear hr0 hc0
 have HR1 := Aside0.mk hr1
 have HC1 := Aside0.mk hc1
 clear hr1 hc1
 have H : (if (l0.length : Int) = (l1.length : Int) then (num_size.l0 k l0 l1 (wrap64 ((l0.length : Int) - 1))) else (if (l0.length : Int) < (l1.length : Int) then (some (-1)) else (some 1))) = some r := h
 clear h
 by_cases c3 : (l0.length : Int) = (l1.length : Int)
 ·rw [if_pos c3] at H
  have c3b0 : ((l0.length : Int) == (l1.length : Int)) = true := beq_iff_eq.mpr c3
  have c3b1 : ((l0.length : Int) != (l1.length : Int)) = false := bne_eq_false_iff_eq.mpr c3
  have c3b2 : (l0.length == l1.length) = true := by first | simpa using c3 | (simp at c3 ⊢; omega)
  clear c3
  have H' := Aside0.mk H
  clear H
  go_enter Tryz.func172, Tryz.ntmps172
  go_wp2
  repeat (go_quiet (fail); try go_wp2)
  go_loopg [5] k (fun kq v5 w' => ∃ (x5_1 : Int), v5 = .int .i64 x5_1 ∧ Aside0 (num_size.l0 kq l0 l1 x5_1 = some r) ∧ Aside0 (kq ≤ k) ∧ Drawn0 w w')
  case atStart => exact ⟨(wrap64 ((l0.length : Int) - 1)), sd_, H', ⟨Nat.le_refl _⟩, dr_⟩
  case round =>
   clear H'
   try clear c1
   try clear p2
   try clear c3
   try clear c3b0
   try clear c3b1
   try clear c3b2
   obtain ⟨x5_1, rfl, HA, HK1, ⟨m1, rfl⟩⟩ := hrel
   cases gk with
   |zero => exact absurd HA.out (by simp [num_size.l0])
   |succ k1 =>
    have H := HA.out
    clear HA
    simp only [num_size.l0] at H
    by_cases c4 : x5_1 ≥ 0
    ·rw [if_pos c4] at H
     have c4b0 : decide (0 ≤ x5_1) = true := decide_eq_true c4
     clear c4
     by_cases c5 : 0 ≤ x5_1
     ·rw [if_pos c5] at H
      have c5b0 : decide (0 ≤ x5_1) = true := decide_eq_true c5
      clear c5
      by_cases c6 : x5_1 < (l0.length : Int)
      ·rw [if_pos c6] at H
       have c6b0 : decide (x5_1 < (l0.length : Int)) = true := decide_eq_true c6
       clear c6
       by_cases c7 : x5_1 < (l1.length : Int)
       ·rw [if_pos c7] at H
        have c7b0 : decide (x5_1 < (l1.length : Int)) = true := decide_eq_true c7
        clear c7
        by_cases c8 : (rd l0 x5_1) = (rd l1 x5_1)
        ·rw [if_pos c8] at H
         have c8b0 : ((rd l0 x5_1) == (rd l1 x5_1)) = true := beq_iff_eq.mpr c8
         have c8b1 : ((rd l0 x5_1) != (rd l1 x5_1)) = false := bne_eq_false_iff_eq.mpr c8
         clear c8
         have H' := Aside0.mk H
         clear H
         have p159 : 0 ≤ (x5_1 : Int) := of_decide_eq_true as_
         have q159 : x5_1 < (l0.length : Int) := of_decide_eq_true as_
         obtain ⟨ad159, e159, hx159_0⟩ := Kd.at_int HR0.out x5_1 p159 q159
         cases e159
         replace p159 := eq_true p159
         replace q159 := eq_true q159
         have p160 : 0 ≤ (x5_1 : Int) := of_decide_eq_true as_
         have q160 : x5_1 < (l1.length : Int) := of_decide_eq_true as_
         obtain ⟨ad160, e160, hx160_0⟩ := Kd.at_int HR1.out x5_1 p160 q160
         cases e160
         replace p160 := eq_true p160
         replace q160 := eq_true q160
         go_wp2
         repeat (go_quiet (fail); try go_wp2)
         go_roundg k1
         case measure => have := HK1.out; omega
         case rel => exact ⟨(wrap64 (x5_1 - 1)), sd_, H', ⟨by have := HK1.out; omega⟩, dr_⟩
        ·rw [if_neg c8] at H
         have c8b0 : ((rd l0 x5_1) == (rd l1 x5_1)) = false := beq_eq_false_iff_ne.mpr c8
         have c8b1 : ((rd l0 x5_1) != (rd l1 x5_1)) = true := bne_iff_ne.mpr c8
         by_cases c9 : (rd l0 x5_1) < (rd l1 x5_1)
         ·rw [if_pos c9] at H
          have c9b0 : decide ((rd l0 x5_1) < (rd l1 x5_1)) = true := decide_eq_true c9
          clear c9
          obtain rfl := Option.some.inj H
          have p159 : 0 ≤ (x5_1 : Int) := of_decide_eq_true as_
          have q159 : x5_1 < (l0.length : Int) := of_decide_eq_true as_
          obtain ⟨ad159, e159, hx159_0⟩ := Kd.at_int HR0.out x5_1 p159 q159
          cases e159
          replace p159 := eq_true p159
          replace q159 := eq_true q159
          have p160 : 0 ≤ (x5_1 : Int) := of_decide_eq_true as_
          have q160 : x5_1 < (l1.length : Int) := of_decide_eq_true as_
          obtain ⟨ad160, e160, hx160_0⟩ := Kd.at_int HR1.out x5_1 p160 q160
          cases e160
          replace p160 := eq_true p160
          replace q160 := eq_true q160
          have p161 : 0 ≤ (x5_1 : Int) := of_decide_eq_true as_
          have q161 : x5_1 < (l0.length : Int) := of_decide_eq_true as_
          obtain ⟨ad161, e161, hx161_0⟩ := Kd.at_int HR0.out x5_1 p161 q161
          obtain rfl : ad159 = ad161 := (by injection e161)
          replace p161 := eq_true p161
          replace q161 := eq_true q161
          have p162 : 0 ≤ (x5_1 : Int) := of_decide_eq_true as_
          have q162 : x5_1 < (l1.length : Int) := of_decide_eq_true as_
          obtain ⟨ad162, e162, hx162_0⟩ := Kd.at_int HR1.out x5_1 p162 q162
          obtain rfl : ad160 = ad162 := (by injection e162)
          replace p162 := eq_true p162
          replace q162 := eq_true q162
          go_wp2
          repeat (go_quiet (fail); try go_wp2)
          go_ret
          exact ⟨sd_, dr_⟩
         ·rw [if_neg c9] at H
          have c9b0 : decide ((rd l0 x5_1) < (rd l1 x5_1)) = false := decide_eq_false c9
          clear c9
          obtain rfl := Option.some.inj H
          have p159 : 0 ≤ (x5_1 : Int) := of_decide_eq_true as_
          have q159 : x5_1 < (l0.length : Int) := of_decide_eq_true as_
          obtain ⟨ad159, e159, hx159_0⟩ := Kd.at_int HR0.out x5_1 p159 q159
          cases e159
          replace p159 := eq_true p159
          replace q159 := eq_true q159
          have p160 : 0 ≤ (x5_1 : Int) := of_decide_eq_true as_
          have q160 : x5_1 < (l1.length : Int) := of_decide_eq_true as_
          obtain ⟨ad160, e160, hx160_0⟩ := Kd.at_int HR1.out x5_1 p160 q160
          cases e160
          replace p160 := eq_true p160
          replace q160 := eq_true q160
          have p161 : 0 ≤ (x5_1 : Int) := of_decide_eq_true as_
          have q161 : x5_1 < (l0.length : Int) := of_decide_eq_true as_
          obtain ⟨ad161, e161, hx161_0⟩ := Kd.at_int HR0.out x5_1 p161 q161
          obtain rfl : ad159 = ad161 := (by injection e161)
          replace p161 := eq_true p161
          replace q161 := eq_true q161
          have p162 : 0 ≤ (x5_1 : Int) := of_decide_eq_true as_
          have q162 : x5_1 < (l1.length : Int) := of_decide_eq_true as_
          obtain ⟨ad162, e162, hx162_0⟩ := Kd.at_int HR1.out x5_1 p162 q162
          obtain rfl : ad160 = ad162 := (by injection e162)
          replace p162 := eq_true p162
          replace q162 := eq_true q162
          go_wp2
          repeat (go_quiet (fail); try go_wp2)
          go_ret
          exact ⟨sd_, dr_⟩
       ·rw [if_neg c7] at H
        exact absurd H (by simp)
      ·rw [if_neg c6] at H
       exact absurd H (by simp)
     ·rw [if_neg c5] at H
      exact absurd H (by simp)
    ·rw [if_neg c4] at H
     have c4b0 : decide (0 ≤ x5_1) = false := decide_eq_false c4
     clear c4
     obtain rfl := Option.some.inj H
     go_wp2
     repeat (go_quiet (fail); try go_wp2)
     go_ret
     exact ⟨sd_, dr_⟩
 ·rw [if_neg c3] at H
  have c3b0 : ((l0.length : Int) == (l1.length : Int)) = false := beq_eq_false_iff_ne.mpr c3
  have c3b1 : ((l0.length : Int) != (l1.length : Int)) = true := bne_iff_ne.mpr c3
  have c3b2 : (l0.length == l1.length) = false := by first | simpa using c3 | (simp at c3 ⊢; omega)
  by_cases c10 : (l0.length : Int) < (l1.length : Int)
  ·rw [if_pos c10] at H
   have c10b0 : decide ((l0.length : Int) < (l1.length : Int)) = true := decide_eq_true c10
   have c10b1 : decide (l0.length < l1.length) = true := decide_eq_true (Int.ofNat_lt.mp c10)
   clear c10
   obtain rfl := Option.some.inj H
   go_enter Tryz.func172, Tryz.ntmps172
   go_wp2
   repeat (go_quiet (fail); try go_wp2)
   go_ret
   exact ⟨sd_, dr_⟩
  ·rw [if_neg c10] at H
   have c10b0 : decide ((l0.length : Int) < (l1.length : Int)) = false := decide_eq_false c10
   have c10b1 : decide (l0.length < l1.length) = false := decide_eq_false (fun h => c10 (Int.ofNat_lt.mpr h))
   clear c10
   obtain rfl := Option.some.inj H
   go_enter Tryz.func172, Tryz.ntmps172
   go_wp2
   repeat (go_quiet (fail); try go_wp2)
   go_ret
   exact ⟨sd_, dr_⟩
attribute [local go_sem] max2_int min2_int max_two min_two max_three min_three max_four min_four
set_option linter.unusedVariables false
set_option linter.unusedSimpArgs false
def num_Whole_digits.l0 : Nat → Int → Int → Option (Int)
 |0, _, _ => none
 |k + 1, x3, x4 => if x4 > 0 then (num_Whole_digits.l0 k (wrap64 (x3 + 1)) ((Int.tdiv x4 10) % 4294967296)) else (some x3)
def num_Whole_digits.f (k : Nat) (a0_0 : Bool) (l0_1 : List Int) : Option (Int) := if (l0_1.length : Int) = 0 then (some 0) else (if 0 ≤ (wrap64 ((l0_1.length : Int) - 1)) then (if (wrap64 ((l0_1.length : Int) - 1)) < (l0_1.length : Int) then (num_Whole_digits.l0 k (wrap64 (9 * (wrap64 ((l0_1.length : Int) - 1)))) (rd l0_1 (wrap64 ((l0_1.length : Int) - 1)))) else (none)) else (none))
set_option maxHeartbeats 8000000 in
set_option maxRecDepth 100000 in
theorem num_Whole_digits.calls (k : Nat) (a0_0 : Bool) (A0_1 : Option Addr) (c0_1 : Nat) (l0_1 : List Int) (r : Int) (w : World) (hr0_1 : Kd.C (Kd.int .u32) w A0_1 l0_1.length l0_1) (hc0_1 : l0_1.length ≤ c0_1) (h : num_Whole_digits.f k a0_0 l0_1 = some r) :
  Calls Tryz.prog 174 #[.agg #[.bool a0_0, .slice A0_1 l0_1.length c0_1]] w fun e w' => e = .returned (.int .i64 r) ∧ Below w.heap.size w w' := by
 have hu77 := Tryz.underlying77
 have HR0_1 := Aside0.mk hr0_1
 have HC0_1 := Aside0.mk hc0_1
 clear hr0_1 hc0_1
 have HB := Aside0.mk (Below.refl w.heap.size w)
 have H : (if (l0_1.length : Int) = 0 then (some 0) else (if 0 ≤ (wrap64 ((l0_1.length : Int) - 1)) then (if (wrap64 ((l0_1.length : Int) - 1)) < (l0_1.length : Int) then (num_Whole_digits.l0 k (wrap64 (9 * (wrap64 ((l0_1.length : Int) - 1)))) (rd l0_1 (wrap64 ((l0_1.length : Int) - 1)))) else (none)) else (none))) = some r := h
 clear h
 by_cases c2 : (l0_1.length : Int) = 0
 ·rw [if_pos c2] at H
  have c2b0 : ((l0_1.length : Int) == 0) = true := beq_iff_eq.mpr c2
  have c2b1 : ((l0_1.length : Int) != 0) = false := bne_eq_false_iff_eq.mpr c2
  clear c2
  obtain rfl := Option.some.inj H
  go_enter Tryz.func174, Tryz.ntmps174
  go_wp2_with (first | ((with_reducible refine gate_dst (N := 1) rfl ?_); refine box_event ?hg (N := 1) ?hd (cs := #[.bool a0_0, .slice A0_1 l0_1.length c0_1]) (t := 77) ?hr ?_; (case hd => rfl); (case hg => rfl); (case hr => first | (go_simp; done) | (go_simp; rfl)); intro gb181 hg w3 hbox hb; have n0_ := Aside0.mk (below_step bw_ hb); have n1_ := Aside0.mk (hbox); have n2_ := Aside0.mk ((by rw [hg]; exact (below_size bw_) : w.heap.size ≤ gb181)); have n3_ := Aside0.mk ((by rw [hg]; exact (below_size bw_) : w.heap.size ≤ gb181)); clear HB; have HB := n0_; have BK181 := n1_; have GW181 := n2_; have GE181 := n3_; clear n0_ n1_ n2_ n3_; clear hb hbox hg; have hcz4_0 : w3.cell? ⟨gb181, 0, none⟩ = some (.bool a0_0) := (blk_cell BK181.out 0).trans rfl; have hcz4_1 : w3.cell? ⟨gb181, 1, none⟩ = some (.slice A0_1 l0_1.length c0_1) := (blk_cell BK181.out 1).trans rfl; have hfz4_0 := blk_frozen BK181.out 0; have hfz4_1 := blk_frozen BK181.out 1))
  go_ret
  exact ⟨by first | rfl | (simp [errW_none, errW_some] <;> rfl) | (simp [*, errW_none, errW_some] <;> rfl), by repeat (first | (with_reducible first | exact HB.out | apply below_alloc | apply pw_below_drewN | apply below_drew1 | refine below_set ?_ GE181.out) | exact HB.out)⟩
 ·rw [if_neg c2] at H
  have c2b0 : ((l0_1.length : Int) == 0) = false := beq_eq_false_iff_ne.mpr c2
  have c2b1 : ((l0_1.length : Int) != 0) = true := bne_iff_ne.mpr c2
  have c2b2 : ¬ (l0_1 = []) := fun h_ => c2 (by rw [h_]; rfl)
  obtain ⟨ji5, hji5⟩ : ∃ j_ : Int, (wrap64 ((l0_1.length : Int) - 1)) = j_ := ⟨_, rfl⟩
  replace H : (if 0 ≤ (ji5) then (if (ji5) < (l0_1.length : Int) then (num_Whole_digits.l0 k (wrap64 (9 * (ji5))) (rd l0_1 (ji5))) else (none)) else (none)) = some r := by first | (rw [hji5] at H; exact H) | (simp only [hji5] at H ⊢; exact H)
  have hji5w : (IntKind.i64.wrap ((l0_1.length : Int) - 1)) = ji5 := (i64_w _).trans hji5
  by_cases c6 : 0 ≤ (ji5)
  ·rw [if_pos c6] at H
   have c6b0 : decide (0 ≤ (ji5)) = true := decide_eq_true c6
   clear c6
   by_cases c7 : (ji5) < (l0_1.length : Int)
   ·rw [if_pos c7] at H
    have c7b0 : decide ((ji5) < (l0_1.length : Int)) = true := decide_eq_true c7
    clear c7
    have H' := Aside0.mk H
    clear H
    go_enter Tryz.func174, Tryz.ntmps174
    go_wp2_with (first | ((with_reducible refine gate_dst (N := 1) rfl ?_); refine box_event ?hg (N := 1) ?hd (cs := #[.bool a0_0, .slice A0_1 l0_1.length c0_1]) (t := 77) ?hr ?_; (case hd => rfl); (case hg => rfl); (case hr => first | (go_simp; done) | (go_simp; rfl)); intro gb181 hg w8 hbox hb; have n0_ := Aside0.mk (below_step bw_ hb); have n1_ := Aside0.mk (hbox); have n2_ := Aside0.mk ((by rw [hg]; exact (below_size bw_) : w.heap.size ≤ gb181)); have n3_ := Aside0.mk ((by rw [hg]; exact (below_size bw_) : w.heap.size ≤ gb181)); clear HB; have HB := n0_; have BK181 := n1_; have GW181 := n2_; have GE181 := n3_; clear n0_ n1_ n2_ n3_; clear hb hbox hg; have hcz9_0 : w8.cell? ⟨gb181, 0, none⟩ = some (.bool a0_0) := (blk_cell BK181.out 0).trans rfl; have hcz9_1 : w8.cell? ⟨gb181, 1, none⟩ = some (.slice A0_1 l0_1.length c0_1) := (blk_cell BK181.out 1).trans rfl; have hfz9_0 := blk_frozen BK181.out 0; have hfz9_1 := blk_frozen BK181.out 1; have p182 : 0 ≤ ((ji5) : Int) := of_decide_eq_true as_; have q182 : (ji5) < (l0_1.length : Int) := of_decide_eq_true as_; obtain ⟨ad182, e182, hx182_0⟩ := Kd.at_int HR0_1.out (ji5) p182 q182; cases e182; replace hx182_0 := (HB.out.cell (World.block_lt_of_cell? w _ hx182_0)).trans hx182_0; replace p182 := eq_true p182; replace q182 := eq_true q182))
    go_loopg [3, 4] k (fun kq v3 v4 w' => ∃ (x3_1 : Int) (x4_1 : Int), v3 = .int .i64 x3_1 ∧ v4 = .int .u32 x4_1 ∧ Aside0 (num_Whole_digits.l0 kq x3_1 x4_1 = some r) ∧ Aside0 (kq ≤ k) ∧ Aside0 (w'.heap[gb181]? = some (.cells #[.bool a0_0, (.slice (some ad182) l0_1.length c0_1)] 77 (0, 0))) ∧ Aside0 (Below w.heap.size w w'))
    case atStart => exact ⟨(wrap64 (9 * (ji5))), (rd l0_1 (ji5)), (by first | rfl | (simp; done) | (simp only [← hji5] <;> (first | rfl | simp)) | (simp [*]; done)), (by first | rfl | (simp; done) | (simp only [← hji5] <;> (first | rfl | simp)) | (simp [*]; done)), H', ⟨Nat.le_refl _⟩, ⟨by (with_reducible repeat (first | refine blk_drewN ?_ _ | refine blk_drew ?_ | refine blk_alloc ?_ _)); exact BK181.out⟩, ⟨by repeat (first | (with_reducible first | exact HB.out | apply below_alloc | apply pw_below_drewN | apply below_drew1 | refine below_set ?_ GE181.out) | exact HB.out)⟩⟩
    case round =>
     clear H'
     try clear c1
     try clear p1
     try clear q1
     try clear hx1
     try clear c2
     try clear c2b0
     try clear c2b1
     try clear c2b2
     try clear p2
     try clear c6
     try clear c6b0
     try clear p6
     try clear c7
     try clear c7b0
     try clear hcz4_0
     try clear hcz4_1
     try clear hcz9_0
     try clear hcz9_1
     try clear hfz4_0
     try clear hfz4_1
     try clear hfz9_0
     try clear hfz9_1
     try clear hx182_0
     try clear p182
     try clear q182
     obtain ⟨x3_1, x4_1, rfl, rfl, HA, HK1, BK181, HB⟩ := hrel
     cases gk with
     |zero => exact absurd HA.out (by simp [num_Whole_digits.l0])
     |succ k1 =>
      have H := HA.out
      clear HA
      simp only [num_Whole_digits.l0] at H
      by_cases c10 : x4_1 > 0
      ·rw [if_pos c10] at H
       have c10b0 : decide (0 < x4_1) = true := decide_eq_true c10
       clear c10
       have H' := Aside0.mk H
       clear H
       go_wp2
       go_roundg k1
       case measure => have := HK1.out; omega
       case rel => exact ⟨(wrap64 (x3_1 + 1)), ((Int.tdiv x4_1 10) % 4294967296), sd_, sd_, H', ⟨by have := HK1.out; omega⟩, ⟨by (with_reducible repeat (first | refine blk_drewN ?_ _ | refine blk_drew ?_ | refine blk_alloc ?_ _)); exact BK181.out⟩, ⟨by repeat (first | (with_reducible first | exact HB.out | apply below_alloc | apply pw_below_drewN | apply below_drew1 | refine below_set ?_ GE181.out) | exact HB.out)⟩⟩
      ·rw [if_neg c10] at H
       have c10b0 : decide (0 < x4_1) = false := decide_eq_false c10
       clear c10
       obtain rfl := Option.some.inj H
       go_wp2
       go_ret
       exact ⟨by first | rfl | (simp [errW_none, errW_some] <;> rfl) | (simp only [← hji5]; first | rfl | (simp [errW_none, errW_some] <;> rfl)) | (simp [*, errW_none, errW_some] <;> rfl), by repeat (first | (with_reducible first | exact HB.out | apply below_alloc | apply pw_below_drewN | apply below_drew1 | refine below_set ?_ GE181.out) | exact HB.out)⟩
   ·rw [if_neg c7] at H
    exact absurd H (by simp)
  ·rw [if_neg c6] at H
   exact absurd H (by simp)
theorem snoc_of {l : List Int} {n : Nat} (h : l.length = n + 1) : ∃ xs y, l = xs ++ [y] ∧ xs.length = n := by
 rcases List.eq_nil_or_concat l with rfl | ⟨xs, y, rfl⟩
 ·cases h
 ·exact ⟨xs, y, by simp, by simpa using h⟩
theorem rd_last (xs : List Int) (y : Int) : rd (xs ++ [y]) (xs.length : Int) = y := by simp [rd]
theorem tr_snoc_zero : ∀ xs : List Int, tr (xs ++ [0]) = tr xs
 |[] => by simp [tr]
 |x :: xs => by rw [List.cons_append, tr, tr, tr_snoc_zero xs]
theorem tr_snoc {y : Int} (h : y ≠ 0) : ∀ xs : List Int, tr (xs ++ [y]) = xs ++ [y]
 |[] => by simp [tr, h]
 |x :: xs => by
  rw [List.cons_append, tr, tr_snoc h xs]
  cases xs <;> rfl
theorem trim_l0 : ∀ (n : Nat) (l : List Int) (k : Nat), l.length = n → n < k → n ≤ 9223372036854775807 → num_trim.l0 k l = some (tr l)
 |0, l, k, h, hk, hn => by
  obtain ⟨k, rfl⟩ : ∃ m, k = m + 1 := ⟨k - 1, by omega⟩
  obtain rfl := List.eq_nil_of_length_eq_zero h
  rfl
 |n + 1, l, k, h, hk, hn => by
  obtain ⟨k, rfl⟩ : ∃ m, k = m + 1 := ⟨k - 1, by omega⟩
  obtain ⟨xs, y, rfl, rfl⟩ := snoc_of h
  have e : wrap64 (((xs ++ [y]).length : Int) - 1) = (xs.length : Int) := by simp only [List.length_append, List.length_cons, List.length_nil]; rw [wrap_id (by omega) (by omega)]; omega
  rw [num_trim.l0, e, if_pos (by simp only [List.length_append, List.length_cons, List.length_nil]; omega), if_pos (by omega), if_pos (by simp only [List.length_append, List.length_cons, List.length_nil]; omega), rd_last]
  by_cases hy : y = 0
  ·subst hy
   rw [if_pos rfl, if_pos (by simp only [List.length_append, List.length_cons, List.length_nil]; omega), tr_snoc_zero]
   have : (xs ++ [(0 : Int)]).take (xs.length : Int).toNat = xs := by simp
   rw [this]
   exact trim_l0 _ xs k rfl (by omega) (by omega)
  ·rw [if_neg hy, tr_snoc hy]
theorem trim_ev (l : List Int) (h : l.length ≤ 9223372036854775807) : num_trim.f (l.length + 1) l = some (tr l) := trim_l0 _ l _ rfl (by omega) h
theorem val_take_drop (l : List Int) (i : Nat) (h : i ≤ l.length) : val l = val (l.take i) + 1000000000 ^ i * val (l.drop i) := by
 conv => lhs; rw [← List.take_append_drop i l]
 rw [val_append, List.length_take, Nat.min_eq_left h]
theorem size_l0 {a b : List Int} (ha : Lim a) (hb : Lim b) (hl : a.length = b.length) (hm : a.length ≤ 9223372036854775807) : ∀ (i k : Nat), i ≤ a.length → i < k → a.drop i = b.drop i →
  num_size.l0 k a b ((i : Int) - 1) = some ((val a - val b).sign)
 |0, k, h, hk, he => by
  obtain ⟨k, rfl⟩ : ∃ m, k = m + 1 := ⟨k - 1, by omega⟩
  simp only [List.drop_zero] at he
  subst he
  rw [num_size.l0, if_neg (by simp), Int.sub_self, Int.sign_zero]
 |i + 1, k, h, hk, he => by
  obtain ⟨k, rfl⟩ : ∃ m, k = m + 1 := ⟨k - 1, by omega⟩
  have e : (((i + 1 : Nat) : Int) - 1) = (i : Int) := by omega
  rw [num_size.l0, e, if_pos (by omega), if_pos (by omega), if_pos (by omega), if_pos (by omega)]
  have d1 := drop_cons a i (by omega)
  have d2 := drop_cons b i (by omega)
  by_cases hx : rd a (i : Int) = rd b (i : Int)
  ·rw [if_pos hx, wrap_id (by omega) (by omega)]
   exact size_l0 ha hb hl hm i k (by omega) (by omega) (by rw [d1, d2, hx, he])
  ·rw [if_neg hx]
   have v1 := val_take_drop a i (by omega)
   have v2 := val_take_drop b i (by omega)
   have l1 := val_lt _ (ha.take i)
   have l2 := val_lt _ (hb.take i)
   have n1 := val_nonneg _ (ha.take i)
   have n2 := val_nonneg _ (hb.take i)
   rw [List.length_take, Nat.min_eq_left (by omega)] at l1 l2
   rw [d1, val, he] at v1
   rw [d2, val] at v2
   have hp := pow_pos i
   rw [Int.mul_add] at v1 v2
   rcases Int.lt_or_gt_of_ne hx with hx | hx
   ·rw [if_pos hx]
    have h3 : (1000000000 : Int) ^ i * (rd a (i : Int) + 1) ≤ 1000000000 ^ i * rd b (i : Int) := Int.mul_le_mul_of_nonneg_left (by omega) (by omega)
    rw [Int.mul_add] at h3
    rw [Int.sign_eq_neg_one_of_neg (by omega)]
   ·rw [if_neg (by omega)]
    have h3 : (1000000000 : Int) ^ i * (rd b (i : Int) + 1) ≤ 1000000000 ^ i * rd a (i : Int) := Int.mul_le_mul_of_nonneg_left (by omega) (by omega)
    rw [Int.mul_add] at h3
    rw [Int.sign_eq_one_of_pos (by omega)]
theorem size_ev {a b : List Int} (ha : Can a) (hb : Can b) (hm : a.length ≤ 9223372036854775807) : num_size.f (a.length + 1) a b = some ((val a - val b).sign) := by
 unfold num_size.f
 by_cases h : a.length = b.length
 ·rw [if_pos (by omega), wrap_id (by omega) (by omega)]
  exact size_l0 ha.1 hb.1 h hm _ _ (Nat.le_refl _) (by omega) (by rw [List.drop_length, h, List.drop_length])
 ·rw [if_neg (by omega)]
  by_cases h2 : a.length < b.length
  ·rw [if_pos (by omega)]
   have := can_len_lt ha hb h2
   rw [Int.sign_eq_neg_one_of_neg (by omega)]
  ·rw [if_neg (by omega)]
   have := can_len_lt hb ha (by omega)
   rw [Int.sign_eq_one_of_pos (by omega)]
def nd (n : Nat) : Nat := (Ten.dg n).length
theorem nd_zero : nd 0 = 0 := by rw [nd, Ten.dg_zero]; rfl
theorem nd_pos (n : Nat) (h : n ≠ 0) : nd n = nd (n / 10) + 1 := by rw [nd, Ten.dg_pos n h]; rfl
theorem nd_le : ∀ (k n : Nat), nd n ≤ k ↔ n < 10 ^ k
 |0, n => by
  by_cases h : n = 0
  ·subst h; simp [nd_zero]
  ·rw [nd_pos n h]; simp; omega
 |k + 1, n => by
  by_cases h : n = 0
  ·subst h
   simp [nd_zero]
   exact Nat.pow_pos (by decide)
  ·rw [nd_pos n h, Nat.add_le_add_iff_right, nd_le k, Nat.div_lt_iff_lt_mul (by decide), Nat.pow_succ]
theorem digits_l0 : ∀ (x k : Nat) (s : Int), x < 4294967296 → nd x < k → 0 ≤ s → s + nd x ≤ 9223372036854775807 → num_Whole_digits.l0 k s (x : Int) = some (s + nd x) := by
 intro x
 induction x using Nat.strongRecOn with
 |ind x ih =>
  intro k s hx hk h0 h1
  obtain ⟨k, rfl⟩ : ∃ m, k = m + 1 := ⟨k - 1, by omega⟩
  by_cases h : x = 0
  ·subst h
   rw [num_Whole_digits.l0, if_neg (by simp), nd_zero]
   simp
  ·have e := nd_pos x h
   rw [num_Whole_digits.l0, if_pos (by omega), wrap_id (by omega) (by omega)]
   have : Int.tdiv (x : Int) 10 % 4294967296 = ((x / 10 : Nat) : Int) := by
    rw [Int.tdiv_eq_ediv_of_nonneg (by omega)]
    omega
   rw [this, ih (x / 10) (by omega) k (s + 1) (by omega) (by omega) (by omega) (by omega), e]
   congr 1
   omega
theorem pow9 (m : Nat) : (1000000000 : Nat) ^ m = 10 ^ (9 * m) := by rw [Nat.pow_mul]
theorem nd_of {n k : Nat} (h1 : 10 ^ k ≤ n) (h2 : n < 10 ^ (k + 1)) : nd n = k + 1 := by
 have a := (nd_le (k + 1) n).2 h2
 have b : ¬ nd n ≤ k := fun h => by have := (nd_le k n).1 h; omega
 omega
theorem nd_join (low top m : Nat) (hl : low < 1000000000 ^ m) (ht : top ≠ 0) : nd (low + 1000000000 ^ m * top) = 9 * m + nd top := by
 obtain ⟨k, hk⟩ : ∃ k, nd top = k + 1 := ⟨nd (top / 10), nd_pos top ht⟩
 have h1 : top < 10 ^ (k + 1) := (nd_le _ _).1 (by omega)
 have h2 : 10 ^ k ≤ top := by
  have : ¬ top < 10 ^ k := fun h => by have := (nd_le k top).2 h; omega
  omega
 rw [hk, show 9 * m + (k + 1) = (9 * m + k) + 1 by omega]
 rw [pow9] at hl ⊢
 refine nd_of ?_ ?_
 ·rw [Nat.pow_add]
  have := Nat.mul_le_mul_left (10 ^ (9 * m)) h2
  omega
 ·rw [show 9 * m + k + 1 = 9 * m + (k + 1) by omega, Nat.pow_add]
  have := Nat.mul_le_mul_left (10 ^ (9 * m)) (show top + 1 ≤ 10 ^ (k + 1) by omega)
  rw [Nat.mul_add] at this
  omega
theorem nd_small {x : Nat} (h : x < 1000000000) : nd x ≤ 9 := (nd_le 9 x).2 (by omega)
theorem digits_ev (b : Bool) {l : List Int} (h : Can l) (hm : l.length ≤ 1000000000000000) : num_Whole_digits.f 11 b l = some ((nd (val l).toNat : Nat) : Int) := by
 unfold num_Whole_digits.f
 by_cases h0 : l = []
 ·subst h0
  rw [if_pos (by simp), val, Int.toNat_zero, nd_zero]
  rfl
 ·have hn : l.length ≠ 0 := fun e => h0 (List.eq_nil_of_length_eq_zero e)
  obtain ⟨xs, y, rfl, hxs⟩ := snoc_of (l := l) (n := l.length - 1) (by omega)
  have e : wrap64 (((xs ++ [y]).length : Int) - 1) = (xs.length : Int) := by simp only [List.length_append, List.length_cons, List.length_nil]; rw [wrap_id (by omega) (by omega)]; omega
  have hlen : (xs ++ [y]).length = xs.length + 1 := by simp
  have hy0 : y ≠ 0 := h.2 y (by simp)
  have hy : 0 ≤ y ∧ y < 1000000000 := h.1 y (by simp)
  obtain ⟨t, rfl⟩ := Int.eq_ofNat_of_zero_le hy.1
  rw [if_neg (by omega), e, if_pos (by omega), if_pos (by omega), rd_last, wrap_id (by omega) (by omega)]
  have hlx : Lim xs := h.1.left
  have hv : (val (xs ++ [(t : Int)])).toNat = (val xs).toNat + 1000000000 ^ xs.length * t := by
   rw [val_append]
   have := val_nonneg xs hlx
   have e2 : val [(t : Int)] = t := by simp [val]
   rw [e2]
   have e3 : (1000000000 : Int) ^ xs.length * (t : Int) = ((1000000000 ^ xs.length * t : Nat) : Int) := by simp
   rw [e3]
   omega
  have ht0 : t ≠ 0 := fun e => hy0 (by rw [e]; rfl)
  have hlow : (val xs).toNat < 1000000000 ^ xs.length := by
   have h1 := val_lt xs hlx
   have h2 := val_nonneg xs hlx
   have e3 : (1000000000 : Int) ^ xs.length = ((1000000000 ^ xs.length : Nat) : Int) := by simp
   rw [e3] at h1
   omega
  have hs := nd_small (x := t) (by omega)
  rw [digits_l0 t 11 _ (by omega) (by omega) (by omega) (by omega), hv, nd_join _ _ _ hlow ht0]
  congr 1
theorem dg_len_zero {n : Nat} : (dg n).length = 0 ↔ n = 0 := by
 constructor
 ·intro h
  by_cases c : n = 0
  ·exact c
  ·rw [dg_pos n c] at h; cases h
 ·rintro rfl; rw [dg_zero]; rfl
theorem dg_toNat (n : Nat) : (val (dg n)).toNat = n := by rw [dg_val]; rfl
set_option maxHeartbeats 8000000
set_option maxRecDepth 100000
def RW (z : Int) (e : Ending) (w' : World) : Prop := ∃ b A n c, e = .returned (.agg #[.bool b, .slice A n c]) ∧ Wh w' b (.slice A n c) z
def RD (l : List Int) (e : Ending) (w' : World) : Prop := ∃ A c, e = .returned (.slice A l.length c) ∧ Dg w' (.slice A l.length c) l
def Fits (z : Int) : Prop := (dg z.natAbs).length ≤ 20000000000000
def sgnI (x : Int) : Int := x.sign
theorem sgnI_neg (x : Int) : sgnI x < 0 ↔ x < 0 := Int.sign_neg_iff
theorem sgnI_pos (x : Int) : 0 < sgnI x ↔ 0 < x := Int.sign_pos_iff
theorem sgnI_zero (x : Int) : sgnI x = 0 ↔ x = 0 := Int.sign_eq_zero_iff_zero
def sgnd (b : Bool) (v : Int) : Int := if b = true then -v else v
theorem sgnd_true (v : Int) : sgnd true v = -v := if_pos rfl
theorem sgnd_false (v : Int) : sgnd false v = v := if_neg (by decide)
theorem dg_canon (z : Int) : Can (dg z.natAbs) := dg_can _
theorem dg_lim (z : Int) : Lim (dg z.natAbs) := (dg_can _).1
theorem val_dg (z : Int) : val (dg z.natAbs) = z.natAbs := dg_val _
theorem RW.mk {W : World} {b : Bool} {A : Option Addr} {n c : Nat} {z : Int} (h : Wh W b (.slice A n c) z) : RW z (.returned (.agg #[.bool b, .slice A n c])) W := by
 exact ⟨b, A, n, c, rfl, h⟩
theorem signed_wh {W : World} {v : Value} {l : List Int} (b : Bool) (hl : Lim l) (h : Dg W v (tr l)) : Wh W (b && decide (0 < (tr l).length)) v (sgnd b (val l)) := by
 have ht := tr_dg hl
 have hv := val_nonneg l hl
 rw [ht] at h ⊢
 have hn : (sgnd b (val l)).natAbs = (val l).toNat := by unfold sgnd; split <;> omega
 refine ⟨?_, by rw [hn]; exact h⟩
 have hz : (dg (val l).toNat).length = 0 ↔ val l = 0 := by rw [dg_len_zero]; omega
 cases b with
 |false => rw [Bool.false_and]; exact (decide_eq_false (by rw [sgnd, if_neg (by decide)]; omega)).symm
 |true =>
  have e : sgnd true (val l) = -val l := if_pos rfl
  rw [Bool.true_and, e]
  by_cases h0 : val l = 0
  ·rw [decide_eq_false (by have := hz.2 h0; omega), decide_eq_false (by omega)]
  ·rw [decide_eq_true (by have := mt hz.1 h0; omega), decide_eq_true (by omega)]
theorem trim_calls {W : World} {A : Option Addr} {n c : Nat} {l : List Int} (h : Dg W (.slice A n c) l) :
  Calls Tryz.prog 185 #[.slice A n c] W fun e w' => Below W.heap.size W w' ∧ RD (tr l) e w' := by
 obtain rfl := h.C.1
 refine (num_trim.calls (l.length + 1) _ A c l (tr l) W (h.V _) (trim_ev l h.C.2.2.2.1)).mono ?_
 rintro e w' ⟨v, rfl, hv, hb⟩
 obtain ⟨A', c', rfl, h1, h2⟩ := Dg.of_V hv
 exact ⟨hb, A', c', rfl, A', c', rfl, h1, h2⟩
theorem size_calls {W : World} {A A' : Option Addr} {n c n' c' : Nat} {l l' : List Int} (h : Dg W (.slice A n c) l) (h' : Dg W (.slice A' n' c') l') (hl : Can l) (hl' : Can l') :
  Calls Tryz.prog 172 #[.slice A n c, .slice A' n' c'] W fun e w' => Below W.heap.size W w' ∧ e = .returned (.int .i64 (sgnI (val l - val l'))) := by
 obtain rfl := h.C.1
 obtain rfl := h'.C.1
 refine (num_size.calls (l.length + 1) A c l A' c' l' _ W h.C.2.2 h.C.2.1 h'.C.2.2 h'.C.2.1 (size_ev hl hl' h.C.2.2.2.1)).mono ?_
 rintro e w' ⟨rfl, hd⟩
 exact ⟨hd.below, rfl⟩
theorem sign_calls {W : World} {b : Bool} {A : Option Addr} {n c : Nat} {z : Int} (h : Wh W b (.slice A n c) z) :
  Calls Tryz.prog 84 #[.agg #[.bool b, .slice A n c]] W fun e w' => Below W.heap.size W w' ∧ e = .returned (.int .i64 (sgnI z)) := by
 have E := (Env.start W).wh h
 have hb := Aside0.mk h.1
 obtain rfl := h.2.C.1
 clear h
 go_enter Tryz.func84, Tryz.ntmps84
 go_wp2_with (first | ((with_reducible first | refine gate_box (by rfl) ?_ | refine gate_alloc (by rfl) ?_); refine bx_ E ?_; clear E; intro gb wb E; have q := E.cls; (repeat obtain ⟨_, _, q⟩ := q); clear q))
 all_goals go_ret
 all_goals refine ⟨E.below, ?_⟩
 all_goals unfold sgnI
 ·rename_i h0
  have : z = 0 := by
   have := dg_len_zero.1 (show (dg z.natAbs).length = 0 by have := of_decide_eq_true h0; omega)
   omega
  subst this
  rfl
 ·rename_i h0 h1
  rw [hb.out] at h1
  rw [Int.sign_eq_neg_one_of_neg (by simpa using h1)]; rfl
 ·rename_i h0 h1
  rw [hb.out] at h1
  have : z ≠ 0 := by rintro rfl; rw [Int.natAbs_zero, dg_zero] at h0; cases h0
  rw [Int.sign_eq_one_of_pos (by simp at h1; omega)]; rfl
theorem signed_calls {W : World} {b : Bool} {A : Option Addr} {n c : Nat} {l : List Int} (h : Dg W (.slice A n c) l) (hl : Lim l) :
  Calls Tryz.prog 153 #[.bool b, .slice A n c] W fun e w' => Below W.heap.size W w' ∧ RW (sgnd b (val l)) e w' := by
 have E := (Env.start W).dg h
 obtain rfl := h.C.1
 clear h
 cases b <;>
 ·go_enter Tryz.func153, Tryz.ntmps153
  go_wp2_with (first | ((with_reducible first | refine gate_box (by rfl) ?_ | refine gate_alloc (by rfl) ?_); refine bx_ E ?_; clear E; intro gb wb E; have q := E.cls; (repeat obtain ⟨_, _, q⟩ := q); clear q) | ((with_reducible refine gate_stored (t := 77) (by rfl) ?_); refine st_ (fun ws hs_ => ?_); replace E := Env.pt2 hs_ E; clear hs_; have q := E.cls; (repeat obtain ⟨_, _, q⟩ := q); clear q) | ((with_reducible refine gate_stored (t := 84) (by rfl) ?_); refine st_ (fun ws hs_ => ?_); replace E := Env.pt4 hs_ E; clear hs_; have q := E.cls; (repeat obtain ⟨_, _, q⟩ := q); clear q) | (go_at_call 185; refine env_call E (trim_calls E.getD) ?_; clear E; rintro e wc E ⟨Ar, cr, rfl, hw_⟩; replace E := E.dg hw_; clear hw_; have q := E.cls; (repeat obtain ⟨_, _, q⟩ := q); clear q))
  refine bodyPost_ret (results_single rfl (.cell _ _ _ (0, 0) _ rfl E.blk Tryz.underlying77 rfl (by kernel_rfl) .nil)) rfl ?_
  exact ⟨E.below, RW.mk (by first | simpa using signed_wh false hl E.getD | simpa using signed_wh true hl E.getD)⟩
theorem neg_calls {W : World} {b : Bool} {A : Option Addr} {n c : Nat} {z : Int} (h : Wh W b (.slice A n c) z) :
  Calls Tryz.prog 86 #[.agg #[.bool b, .slice A n c]] W fun e w' => Below W.heap.size W w' ∧ RW (-z) e w' := by
 have E := (Env.start W).wh h
 have hb := Aside0.mk h.1
 obtain rfl := h.2.C.1
 clear h
 go_enter Tryz.func86, Tryz.ntmps86
 go_wp2_with (first | ((with_reducible first | refine gate_box (by rfl) ?_ | refine gate_alloc (by rfl) ?_); refine bx_ E ?_; clear E; intro gb wb E; have q := E.cls; (repeat obtain ⟨_, _, q⟩ := q); clear q) | ((with_reducible refine gate_stored (t := 77) (by rfl) ?_); refine st_ (fun ws hs_ => ?_); replace E := Env.pt2 hs_ E; clear hs_; have q := E.cls; (repeat obtain ⟨_, _, q⟩ := q); clear q) | ((with_reducible refine gate_stored (t := 84) (by rfl) ?_); refine st_ (fun ws hs_ => ?_); replace E := Env.pt4 hs_ E; clear hs_; have q := E.cls; (repeat obtain ⟨_, _, q⟩ := q); clear q) | (go_at_call 153; refine env_call E (signed_calls E.getW.2 (dg_lim z)) ?_; clear E; rintro e wc E ⟨br, Ar, nr, cr, rfl, hw_⟩; replace E := E.wh hw_; clear hw_; have q := E.cls; (repeat obtain ⟨_, _, q⟩ := q); clear q))
 refine bodyPost_ret (results_single rfl (.cell _ _ _ (0, 0) _ rfl E.blk Tryz.underlying77 rfl (by kernel_rfl) .nil)) rfl ?_
 refine ⟨E.below, RW.mk ?_⟩
 have : sgnd (!b) (val (dg z.natAbs)) = -z := by
  rw [val_dg, hb.out, sgnd]
  by_cases h0 : z < 0
  ·rw [decide_eq_true h0, if_neg (by decide)]; omega
  ·rw [decide_eq_false h0, if_pos (by decide)]; omega
 rw [← this]
 exact E.getW
theorem cmp_calls {W : World} {b b' : Bool} {A A' : Option Addr} {n c n' c' : Nat} {z z' : Int} (h : Wh W b (.slice A n c) z) (h' : Wh W b' (.slice A' n' c') z') :
  Calls Tryz.prog 141 #[.agg #[.bool b, .slice A n c], .agg #[.bool b', .slice A' n' c']] W fun e w' => Below W.heap.size W w' ∧ e = .returned (.int .i64 (sgnI (z - z'))) := by
 have E := ((Env.start W).wh h).wh h'
 have hb := Aside0.mk h.1
 have hb' := Aside0.mk h'.1
 obtain rfl := h.2.C.1
 obtain rfl := h'.2.C.1
 clear h h'
 have v1 := Aside0.mk (val_dg z)
 have v2 := Aside0.mk (val_dg z')
 cases b <;> cases b' <;>
 ·go_enter Tryz.func141, Tryz.ntmps141
  go_wp2_with (first | ((with_reducible first | refine gate_box (by rfl) ?_ | refine gate_alloc (by rfl) ?_); refine bx_ E ?_; clear E; intro gb wb E; have q := E.cls; (repeat obtain ⟨_, _, q⟩ := q); clear q) | ((with_reducible refine gate_stored (t := 77) (by rfl) ?_); refine st_ (fun ws hs_ => ?_); replace E := Env.pt2 hs_ E; clear hs_; have q := E.cls; (repeat obtain ⟨_, _, q⟩ := q); clear q) | ((with_reducible refine gate_stored (t := 84) (by rfl) ?_); refine st_ (fun ws hs_ => ?_); replace E := Env.pt4 hs_ E; clear hs_; have q := E.cls; (repeat obtain ⟨_, _, q⟩ := q); clear q) | (go_at_call 172; refine env_call E (size_calls E.getW.2 E.getW.2 (dg_canon _) (dg_canon _)) ?_; clear E; rintro e wc E rfl; have q := E.cls; (repeat obtain ⟨_, _, q⟩ := q); clear q))
  go_ret
  refine ⟨E.below, ?_⟩
  simp only [sgnI]
  have h1 := hb.out
  have h2 := hb'.out
  have v1 := v1.out
  have v2 := v2.out
  simp only [Bool.false_eq, Bool.true_eq, decide_eq_true_eq, decide_eq_false_iff_not] at h1 h2
  first | (rw [Int.sign_eq_one_of_pos (show 0 < z - z' by omega)]; rfl) | (rw [Int.sign_eq_neg_one_of_neg (show z - z' < 0 by omega)]; rfl) | (show Ending.returned (.int .i64 (Int.sign _)) = _; congr 3; omega)
theorem digits_calls {W : World} {b : Bool} {A : Option Addr} {n c : Nat} {z : Int} (h : Wh W b (.slice A n c) z) (hf : Fits z) :
  Calls Tryz.prog 174 #[.agg #[.bool b, .slice A n c]] W fun e w' => Below W.heap.size W w' ∧ e = .returned (.int .i64 (nd z.natAbs)) := by
 obtain rfl := h.2.C.1
 have := digits_ev b (dg_canon z) (Nat.le_trans hf (by decide))
 rw [dg_toNat] at this
 refine (num_Whole_digits.calls 11 b A c _ _ W h.2.C.2.2 h.2.C.2.1 this).mono ?_
 rintro e w' ⟨rfl, hb⟩
 exact ⟨hb, rfl⟩
def Lg (z : Int) : Bool := decide (1000 < nd z.natAbs)
theorem long_calls {W : World} {b : Bool} {A : Option Addr} {n c : Nat} {z : Int} (h : Wh W b (.slice A n c) z) (hf : Fits z) :
  Calls Tryz.prog 142 #[.agg #[.bool b, .slice A n c]] W fun e w' => Below W.heap.size W w' ∧ e = .returned (.bool (Lg z)) := by
 have E := (Env.start W).wh h
 obtain rfl := h.2.C.1
 clear h
 go_enter Tryz.func142, Tryz.ntmps142
 go_wp2_with (first | ((with_reducible first | refine gate_box (by rfl) ?_ | refine gate_alloc (by rfl) ?_); refine bx_ E ?_; clear E; intro gb wb E; have q := E.cls; (repeat obtain ⟨_, _, q⟩ := q); clear q) | ((with_reducible refine gate_stored (t := 77) (by rfl) ?_); refine st_ (fun ws hs_ => ?_); replace E := Env.pt2 hs_ E; clear hs_; have q := E.cls; (repeat obtain ⟨_, _, q⟩ := q); clear q) | ((with_reducible refine gate_stored (t := 84) (by rfl) ?_); refine st_ (fun ws hs_ => ?_); replace E := Env.pt4 hs_ E; clear hs_; have q := E.cls; (repeat obtain ⟨_, _, q⟩ := q); clear q) | (go_at_call 174; refine env_call E (digits_calls E.getW hf) ?_; clear E; rintro e wc E rfl; have q := E.cls; (repeat obtain ⟨_, _, q⟩ := q); clear q))
 go_ret
 refine ⟨E.below, ?_⟩
 simp [Lg]
 try omega
abbrev Own32 (w : World) (W : World) (v : Value) (l : List Int) : Prop := Kd.R KU 145 W w.heap.size (fun _ => True) v l
section
variable {ops : Array Oper} {o : Oper} {rest : List Oper} {a : Act} {Q : Exit → Act → World → Prop} {w W : World}
theorem app32 {s x : Operand} {v : Value} {l : List Int} {y : Int} (hgd : o.guard = none) (ho : o.op = .call { callee := .builtin .append, args := #[s, x], argTypes := #[75, 75] }) (hs : a.eval s = v) (hx : a.eval x = .slice (some ⟨W.heap.size, 0, none⟩) 1 1)
  (HO : Own32 w W v l) (HB : Below w.heap.size w W) (hl : l.length ≤ 30000000000000) (h : ∀ v1 w1, Own32 w w1 v1 (l ++ [y]) → Below w.heap.size w w1 → wpList Tryz.prog ops Q rest (a.put o.dst v1) w1) :
  wpList Tryz.prog ops Q (o :: rest) a (W.alloc (.cells #[.int .u32 y] 145)) :=
 Kd.R_append KU (w0 := w) w.heap.size hgd s x 75 145 (.int .u32 0) 4 ho Tryz.underlying75 info145 rfl (by decide) (by omega) v l y [.int .u32 y] (fun _ => True) (fun _ => False) hs hx rfl (fun _ hk => hk.elim) (fun _ _ => trivial) HO HB HB.size (by omega) (fun v1 w1 h1 h2 _ _ => h v1 w1 h1 h2)
theorem cap32 {x y : Operand} {N : Tmp} {n : Int} (hgd : o.guard = none) (hd : o.dst = some N) (ho : o.op = .makeSlice 75 x y) (hx : a.eval x = .int .i64 0) (hy : a.eval y = .int .i64 n) (h0 : 0 ≤ n) (hn : n ≤ 60000000000000) (HB : Below w.heap.size w W)
  (h : ∀ v1 w1, Own32 w w1 v1 [] → Below w.heap.size w w1 → wpList Tryz.prog ops Q rest (a.put o.dst v1) w1) : wpList Tryz.prog ops Q (o :: rest) a W :=
 Kd.R_makecap KU w.heap.size 145 hgd hd 75 x y ho n hx hy Tryz.underlying75 (.int .u32 0) 4 info145 rfl (by decide) (by omega) (ok := fun _ => True) trivial h0 (by omega) HB HB.size (fun v1 w1 h1 h2 _ _ => h v1 w1 h1 h2)
end
theorem Dg.digit {w W : World} {A : Option Addr} {c : Nat} {l : List Int} (h : Dg w (.slice A l.length c) l) (HB : Below w.heap.size w W) (x : Int) (h0 : 0 ≤ x) (h1 : x < (l.length : Int)) : ∃ ad, A = some ad ∧ W.cell? (ad.add x.toNat) = some (.int .u32 (rd l x)) := by
 obtain ⟨ad, e, hx⟩ := Kd.at_int h.C.2.2 x h0 h1
 exact ⟨ad, e, (HB.cell (World.block_lt_of_cell? w _ hx)).trans hx⟩
theorem plus_step {a b out : List Int} {i : Nat} {cy : Int} (ha : Lim a) (hb : Lim b) (hi : i < a.length) (hc : 0 ≤ cy ∧ cy ≤ 1) (hl : out.length = i) (hv : val out + 1000000000 ^ i * cy = val (a.take i) + val (b.take i)) (y : Int) (hy : y = if i < b.length then rd b (i : Int) else 0) :
  0 ≤ (rd a (i : Int) + cy + y) / 1000000000 ∧ (rd a (i : Int) + cy + y) / 1000000000 ≤ 1 ∧ val (out ++ [(rd a (i : Int) + cy + y) % 1000000000]) + 1000000000 ^ (i + 1) * ((rd a (i : Int) + cy + y) / 1000000000) = val (a.take (i + 1)) + val (b.take (i + 1)) := by
 have h1 := ha.rd i hi
 have hb' : 0 ≤ y ∧ y < 1000000000 := by
  rw [hy]
  split
  ·exact hb.rd i (by assumption)
  ·omega
 have e1 : val (a.take (i + 1)) = val (a.take i) + 1000000000 ^ i * rd a (i : Int) := by
  rw [take_snoc a i hi, val_append, List.length_take, Nat.min_eq_left (by omega)]; simp [val]
 have e2 : val (b.take (i + 1)) = val (b.take i) + 1000000000 ^ i * y := by
  rw [hy]
  split
  ·rename_i h
   rw [take_snoc b i h, val_append, List.length_take, Nat.min_eq_left (by omega)]; simp [val]
  ·rw [List.take_of_length_le (by omega), List.take_of_length_le (by omega)]; omega
 refine ⟨by omega, by omega, ?_⟩
 rw [val_append, hl, e1, e2, Int.pow_succ]
 have e3 : val [(rd a (i : Int) + cy + y) % 1000000000] = (rd a (i : Int) + cy + y) % 1000000000 := by simp [val]
 rw [e3]
 have := Int.emod_add_mul_ediv (rd a (i : Int) + cy + y) 1000000000
 generalize (rd a (i : Int) + cy + y) % 1000000000 = m at *
 generalize (rd a (i : Int) + cy + y) / 1000000000 = q at *
 grind
def PlusInv (a b out : List Int) (cy x : Int) (kq : Nat) : Prop := 0 ≤ x ∧ (x.toNat ≤ a.length ∧ (kq : Int) = a.length + 1 - x) ∧ (0 ≤ cy ∧ cy ≤ 1) ∧ out.length = x.toNat ∧ Lim out ∧ val out + 1000000000 ^ x.toNat * cy = val (a.take x.toNat) + val (b.take x.toNat)
theorem PlusInv.next {a b out : List Int} {cy x : Int} {kq : Nat} (h : PlusInv a b out cy x kq) (ha : Lim a) (hb : Lim b) (hm : a.length ≤ 20000000000000) (hx : x < (a.length : Int)) (y s : Int) (hy : y = if x < (b.length : Int) then rd b x else 0) (hs : s = (rd a x + cy + y) % 4294967296) :
  kq - 1 < kq ∧ PlusInv a b (out ++ [s % 1000000000]) (s / 1000000000) (wrap64 (x + 1)) (kq - 1) := by
 obtain ⟨x0, ⟨h1, h2⟩, h3, h4, h5, h6⟩ := h
 obtain ⟨i, rfl⟩ := Int.eq_ofNat_of_zero_le x0
 simp only [Int.toNat_natCast] at h1 h4 h6
 have r1 := ha.rd i (by omega)
 have hy' : y = if i < b.length then rd b (i : Int) else 0 := by
  rw [hy]
  by_cases c : i < b.length
  ·rw [if_pos c, if_pos (by omega)]
  ·rw [if_neg c, if_neg (by omega)]
 have r2 : 0 ≤ y ∧ y < 1000000000 := by
  rw [hy']
  split
  ·exact hb.rd i (by assumption)
  ·omega
 have hs' : s = rd a (i : Int) + cy + y := by rw [hs]; omega
 have st := plus_step ha hb (by omega) h3 h4 h6 y hy'
 rw [← hs'] at st
 have e : wrap64 ((i : Int) + 1) = ((i + 1 : Nat) : Int) := by rw [wrap_id (by omega) (by omega)]; omega
 rw [e]
 have s1 : 0 ≤ s % 1000000000 ∧ s % 1000000000 < 1000000000 := ⟨Int.emod_nonneg _ (by decide), Int.emod_lt_of_pos _ (by decide)⟩
 refine ⟨?_, Int.natCast_nonneg _, ⟨?_, ?_⟩, ⟨st.1, st.2.1⟩, ?_, h5.append (Lim.cons s1.1 s1.2 Lim.nil), ?_⟩
 rotate_left 4
 ·simp only [Int.toNat_natCast]; exact st.2.2
 all_goals clear st h6 hs hs' hy hy'
 ·omega
 ·simp only [Int.toNat_natCast]; omega
 ·omega
 ·simp only [Int.toNat_natCast, List.length_append, List.length_cons, List.length_nil]; omega
theorem PlusInv.fin {a b out : List Int} {cy x : Int} {kq : Nat} (h : PlusInv a b out cy x kq) (hle : b.length ≤ a.length) (hx : ¬ x < (a.length : Int)) : Lim (out ++ [cy]) ∧ (out ++ [cy]).length = a.length + 1 ∧ val (out ++ [cy]) = val a + val b := by
 obtain ⟨x0, ⟨h1, h2⟩, h3, h4, h5, h6⟩ := h
 have e : x.toNat = a.length := by omega
 rw [e] at h4 h6
 rw [List.take_length, List.take_of_length_le hle] at h6
 refine ⟨h5.append (Lim.cons (by omega) (by omega) Lim.nil), by simp [h4], ?_⟩
 rw [val_append, h4]
 simpa [val] using h6
def PlusPost (w : World) (a b : List Int) (e : Ending) (w' : World) : Prop := ∃ (l : List Int) (v : Value), e = .returned v ∧ Own32 w w' v l ∧ Lim l ∧ l.length = a.length + 1 ∧ val l = val a + val b
theorem plus_calls1 {w : World} {A B : Option Addr} {c d : Nat} {a b : List Int} (h : Dg w (.slice A a.length c) a) (h' : Dg w (.slice B b.length d) b) (ha : Lim a) (hb : Lim b) (hle : b.length ≤ a.length) (hm : a.length ≤ 20000000000000) :
  Calls Tryz.prog 171 #[.slice A a.length c, .slice B b.length d] w fun e w' => Below w.heap.size w w' ∧ PlusPost w a b e w' := by
 have hlt : ¬ a.length < b.length := by omega
 have D := Aside0.mk h
 have D' := Aside0.mk h'
 have HLa := Aside0.mk ha
 have HLb := Aside0.mk hb
 have HM := Aside0.mk hm
 have HLE := Aside0.mk hle
 have HB := Aside0.mk (Below.refl w.heap.size w)
 have hw : IntKind.i64.wrap ((a.length : Int) + 1) = (a.length : Int) + 1 := by rw [i64_w, wrap_id (by omega) (by omega)]
 clear h h' ha hb hle hm
 go_enter Tryz.func171, Tryz.ntmps171
 go_wp2_with (at_make; refine cap32 (w := w) (n := (a.length : Int) + 1) (by rfl) (by rfl) (by rfl) (by rfl) (by first | rfl | simp [Act.eval, hw]) (by omega) (by have := HM.out; omega) HB.out ?_; clear HB; intro v1 w1 ho hb; have HO := Aside0.mk ho; have HB := Aside0.mk hb; clear ho hb)
 go_loopg [5, 6, 22] (a.length + 1) (fun kq v5 v6 v22 w' => ∃ (out : List Int) (cy x : Int), v6 = .int .u32 cy ∧ v22 = .int .i64 x ∧ Aside0 (PlusInv a b out cy x kq) ∧ Aside0 (Own32 w w' v5 out) ∧ Aside0 (Below w.heap.size w w'))
 case atStart => exact ⟨[], 0, 0, rfl, rfl, ⟨by simp [PlusInv, val, Lim.nil]⟩, HO, HB⟩
 case round =>
  clear HO HB hw
  obtain ⟨out, cy, x, rfl, rfl, INV, HO, HB⟩ := hrel
  have x0 : 0 ≤ x := INV.out.1
  by_cases hx : x < (a.length : Int)
  ·have hxb : decide (x < (a.length : Int)) = true := decide_eq_true hx
   obtain ⟨ad, eA, cA⟩ := Dg.digit D.out HB.out x x0 hx
   cases eA
   have HX := Aside0.mk hx
   have hx1 : (0 ≤ x) = True := eq_true x0
   have hx2 : (x < (a.length : Int)) = True := eq_true hx
   clear hx
   by_cases hy : x < (b.length : Int)
   ·have hyb : decide (x < (b.length : Int)) = true := decide_eq_true hy
    obtain ⟨ad2, eB, cB⟩ := Dg.digit D'.out HB.out x x0 hy
    cases eB
    have HY := Aside0.mk hy
    have hy2 : (x < (b.length : Int)) = True := eq_true hy
    clear hy
    go_wp2_with (at_builtin; refine app32 (w := w) (v := u5) (l := out) (by rfl) (by rfl) (by rfl) (by rfl) HO.out HB.out (by have := INV.out.2.2.2.1; have := INV.out.2.1.1; have := HM.out; omega) ?_; clear HB HO; intro v1 w1 ho hb; have HO := Aside0.mk ho; have HB := Aside0.mk hb; clear ho hb)
    have hn := INV.out.next HLa.out HLb.out HM.out HX.out (rd b x) _ (by rw [if_pos HY.out]) rfl
    go_roundg (gk - 1)
    case measure => exact hn.1
    case rel => exact ⟨_, _, _, rfl, rfl, ⟨hn.2⟩, HO, HB⟩
   ·have hyb : decide (x < (b.length : Int)) = false := decide_eq_false hy
    have HY := Aside0.mk hy
    have hy2 : (x < (b.length : Int)) = False := eq_false hy
    clear hy
    go_wp2_with (at_builtin; refine app32 (w := w) (v := u5) (l := out) (by rfl) (by rfl) (by rfl) (by rfl) HO.out HB.out (by have := INV.out.2.2.2.1; have := INV.out.2.1.1; have := HM.out; omega) ?_; clear HB HO; intro v1 w1 ho hb; have HO := Aside0.mk ho; have HB := Aside0.mk hb; clear ho hb)
    have hn := INV.out.next HLa.out HLb.out HM.out HX.out 0 _ (by have := HY.out; rw [if_neg (by omega)]) rfl
    rw [Int.add_zero] at hn
    go_roundg (gk - 1)
    case measure => exact hn.1
    case rel => exact ⟨_, _, _, rfl, rfl, ⟨hn.2⟩, HO, HB⟩
  ·have hxb : decide (x < (a.length : Int)) = false := decide_eq_false hx
   have HX := Aside0.mk hx
   have hx2 : (x < (a.length : Int)) = False := eq_false hx
   clear hx
   go_wp2_with (at_builtin; refine app32 (w := w) (v := u5) (l := out) (by rfl) (by rfl) (by rfl) (by rfl) HO.out HB.out (by have := INV.out.2.2.2.1; have := INV.out.2.1.1; have := HM.out; omega) ?_; clear HB HO; intro v1 w1 ho hb; have HO := Aside0.mk ho; have HB := Aside0.mk hb; clear ho hb)
   go_ret
   have hf := INV.out.fin (by have := HLE.out; omega) (by have := HX.out; omega)
   exact ⟨HB.out, _, _, rfl, HO.out, hf.1, hf.2.1, hf.2.2⟩
theorem plus_calls2 {w : World} {A B : Option Addr} {c d : Nat} {a b : List Int} (h : Dg w (.slice A a.length c) a) (h' : Dg w (.slice B b.length d) b) (ha : Lim a) (hb : Lim b) (hle : b.length < a.length) (hm : a.length ≤ 20000000000000) :
  Calls Tryz.prog 171 #[.slice B b.length d, .slice A a.length c] w fun e w' => Below w.heap.size w w' ∧ PlusPost w a b e w' := by
 have hlt : b.length < a.length := hle
 have D := Aside0.mk h
 have D' := Aside0.mk h'
 have HLa := Aside0.mk ha
 have HLb := Aside0.mk hb
 have HM := Aside0.mk hm
 have HLE := Aside0.mk hle
 have HB := Aside0.mk (Below.refl w.heap.size w)
 have hw : IntKind.i64.wrap ((a.length : Int) + 1) = (a.length : Int) + 1 := by rw [i64_w, wrap_id (by omega) (by omega)]
 clear h h' ha hb hle hm
 go_enter Tryz.func171, Tryz.ntmps171
 go_wp2_with (at_make; refine cap32 (w := w) (n := (a.length : Int) + 1) (by rfl) (by rfl) (by rfl) (by rfl) (by first | rfl | simp [Act.eval, hw]) (by omega) (by have := HM.out; omega) HB.out ?_; clear HB; intro v1 w1 ho hb; have HO := Aside0.mk ho; have HB := Aside0.mk hb; clear ho hb)
 go_loopg [5, 6, 22] (a.length + 1) (fun kq v5 v6 v22 w' => ∃ (out : List Int) (cy x : Int), v6 = .int .u32 cy ∧ v22 = .int .i64 x ∧ Aside0 (PlusInv a b out cy x kq) ∧ Aside0 (Own32 w w' v5 out) ∧ Aside0 (Below w.heap.size w w'))
 case atStart => exact ⟨[], 0, 0, rfl, rfl, ⟨by simp [PlusInv, val, Lim.nil]⟩, HO, HB⟩
 case round =>
  clear HO HB hw
  obtain ⟨out, cy, x, rfl, rfl, INV, HO, HB⟩ := hrel
  have x0 : 0 ≤ x := INV.out.1
  by_cases hx : x < (a.length : Int)
  ·have hxb : decide (x < (a.length : Int)) = true := decide_eq_true hx
   obtain ⟨ad, eA, cA⟩ := Dg.digit D.out HB.out x x0 hx
   cases eA
   have HX := Aside0.mk hx
   have hx1 : (0 ≤ x) = True := eq_true x0
   have hx2 : (x < (a.length : Int)) = True := eq_true hx
   clear hx
   by_cases hy : x < (b.length : Int)
   ·have hyb : decide (x < (b.length : Int)) = true := decide_eq_true hy
    obtain ⟨ad2, eB, cB⟩ := Dg.digit D'.out HB.out x x0 hy
    cases eB
    have HY := Aside0.mk hy
    have hy2 : (x < (b.length : Int)) = True := eq_true hy
    clear hy
    go_wp2_with (at_builtin; refine app32 (w := w) (v := u5) (l := out) (by rfl) (by rfl) (by rfl) (by rfl) HO.out HB.out (by have := INV.out.2.2.2.1; have := INV.out.2.1.1; have := HM.out; omega) ?_; clear HB HO; intro v1 w1 ho hb; have HO := Aside0.mk ho; have HB := Aside0.mk hb; clear ho hb)
    have hn := INV.out.next HLa.out HLb.out HM.out HX.out (rd b x) _ (by rw [if_pos HY.out]) rfl
    go_roundg (gk - 1)
    case measure => exact hn.1
    case rel => exact ⟨_, _, _, rfl, rfl, ⟨hn.2⟩, HO, HB⟩
   ·have hyb : decide (x < (b.length : Int)) = false := decide_eq_false hy
    have HY := Aside0.mk hy
    have hy2 : (x < (b.length : Int)) = False := eq_false hy
    clear hy
    go_wp2_with (at_builtin; refine app32 (w := w) (v := u5) (l := out) (by rfl) (by rfl) (by rfl) (by rfl) HO.out HB.out (by have := INV.out.2.2.2.1; have := INV.out.2.1.1; have := HM.out; omega) ?_; clear HB HO; intro v1 w1 ho hb; have HO := Aside0.mk ho; have HB := Aside0.mk hb; clear ho hb)
    have hn := INV.out.next HLa.out HLb.out HM.out HX.out 0 _ (by have := HY.out; rw [if_neg (by omega)]) rfl
    rw [Int.add_zero] at hn
    go_roundg (gk - 1)
    case measure => exact hn.1
    case rel => exact ⟨_, _, _, rfl, rfl, ⟨hn.2⟩, HO, HB⟩
  ·have hxb : decide (x < (a.length : Int)) = false := decide_eq_false hx
   have HX := Aside0.mk hx
   have hx2 : (x < (a.length : Int)) = False := eq_false hx
   clear hx
   go_wp2_with (at_builtin; refine app32 (w := w) (v := u5) (l := out) (by rfl) (by rfl) (by rfl) (by rfl) HO.out HB.out (by have := INV.out.2.2.2.1; have := INV.out.2.1.1; have := HM.out; omega) ?_; clear HB HO; intro v1 w1 ho hb; have HO := Aside0.mk ho; have HB := Aside0.mk hb; clear ho hb)
   go_ret
   have hf := INV.out.fin (by have := HLE.out; omega) (by have := HX.out; omega)
   exact ⟨HB.out, _, _, rfl, HO.out, hf.1, hf.2.1, hf.2.2⟩
theorem plus_calls {w : World} {A B : Option Addr} {n m c d : Nat} {a b : List Int} (h : Dg w (.slice A n c) a) (h' : Dg w (.slice B m d) b) (ha : Lim a) (hb : Lim b) (hm : a.length ≤ 20000000000000) (hm' : b.length ≤ 20000000000000) :
  Calls Tryz.prog 171 #[.slice A n c, .slice B m d] w fun e w' => Below w.heap.size w w' ∧ ∃ l, Lim l ∧ val l = val a + val b ∧ l.length ≤ max a.length b.length + 1 ∧ RD l e w' := by
 obtain rfl := h.C.1
 obtain rfl := h'.C.1
 by_cases hle : b.length ≤ a.length
 ·refine (plus_calls1 h h' ha hb hle hm).mono ?_
  rintro e w' ⟨hb, l, v, rfl, ho, h1, h2, h3⟩
  obtain ⟨A', c', rfl, h4, h5⟩ := Dg.of_R ho
  exact ⟨hb, l, h1, h3, by omega, A', c', rfl, A', c', rfl, h4, h5⟩
 ·refine (plus_calls2 h' h hb ha (by omega) hm').mono ?_
  rintro e w' ⟨hb, l, v, rfl, ho, h1, h2, h3⟩
  obtain ⟨A', c', rfl, h4, h5⟩ := Dg.of_R ho
  exact ⟨hb, l, h1, by omega, by omega, A', c', rfl, A', c', rfl, h4, h5⟩
def MinusInv (a b out : List Int) (bo x : Int) (kq : Nat) : Prop := 0 ≤ x ∧ (x.toNat ≤ a.length ∧ (kq : Int) = a.length + 1 - x) ∧ (0 ≤ bo ∧ bo ≤ 1) ∧ out.length = x.toNat ∧ Lim out ∧ val out + val (b.take x.toNat) = val (a.take x.toNat) + 1000000000 ^ x.toNat * bo
theorem MinusInv.next {a b out : List Int} {bo x : Int} {kq : Nat} (h : MinusInv a b out bo x kq) (ha : Lim a) (hb : Lim b) (hm : a.length ≤ 20000000000000) (hx : x < (a.length : Int)) (y d bo' : Int) (hy : y = if x < (b.length : Int) then rd b x else 0)
  (hd' : d = (rd a x + 1000000000 * bo' - (bo + y)) % 4294967296) (hbo : bo' = 1 ∧ rd a x < (bo + y) % 4294967296 ∨ bo' = 0 ∧ (bo + y) % 4294967296 ≤ rd a x) :
  kq - 1 < kq ∧ MinusInv a b (out ++ [d]) bo' (wrap64 (x + 1)) (kq - 1) := by
 obtain ⟨x0, ⟨h1, h2⟩, h3, h4, h5, h6⟩ := h
 obtain ⟨i, rfl⟩ := Int.eq_ofNat_of_zero_le x0
 simp only [Int.toNat_natCast] at h1 h4 h6
 have r1 := ha.rd i (by omega)
 have hy' : y = if i < b.length then rd b (i : Int) else 0 := by
  rw [hy]
  by_cases c : i < b.length
  ·rw [if_pos c, if_pos (by omega)]
  ·rw [if_neg c, if_neg (by omega)]
 have r2 : 0 ≤ y ∧ y < 1000000000 := by
  rw [hy']
  split
  ·exact hb.rd i (by assumption)
  ·omega
 have b1 : 0 ≤ bo' ∧ bo' ≤ 1 ∧ 0 ≤ d ∧ d < 1000000000 := by
  clear h6 hy hy'
  omega
 have hd : d = rd a (i : Int) + 1000000000 * bo' - (bo + y) := by
  clear h6 hy hy'
  omega
 have e1 : val (a.take (i + 1)) = val (a.take i) + 1000000000 ^ i * rd a (i : Int) := by
  rw [take_snoc a i (by omega), val_append, List.length_take, Nat.min_eq_left (by omega)]; simp [val]
 have e2 : val (b.take (i + 1)) = val (b.take i) + 1000000000 ^ i * y := by
  rw [hy']
  split
  ·rename_i h
   rw [take_snoc b i h, val_append, List.length_take, Nat.min_eq_left (by omega)]; simp [val]
  ·rw [List.take_of_length_le (by omega), List.take_of_length_le (by omega)]; omega
 have e : wrap64 ((i : Int) + 1) = ((i + 1 : Nat) : Int) := by clear h6 e1 e2; rw [wrap_id (by omega) (by omega)]; omega
 rw [e]
 refine ⟨?_, Int.natCast_nonneg _, ⟨?_, ?_⟩, ⟨b1.1, b1.2.1⟩, ?_, h5.append (Lim.cons b1.2.2.1 b1.2.2.2 Lim.nil), ?_⟩
 rotate_left 4
 ·simp only [Int.toNat_natCast]
  rw [val_append, h4, e1, e2, Int.pow_succ, hd]
  have e3 : val [rd a (i : Int) + 1000000000 * bo' - (bo + y)] = rd a (i : Int) + 1000000000 * bo' - (bo + y) := by simp [val]
  rw [e3]
  clear hbo b1 r1 r2 hy hy' hd hd' e1 e2 e3
  grind
 all_goals clear h6 hd hd' hbo hy hy' e1 e2
 ·omega
 ·simp only [Int.toNat_natCast]; omega
 ·omega
 ·simp only [Int.toNat_natCast, List.length_append, List.length_cons, List.length_nil]; omega
theorem MinusInv.fin {a b out : List Int} {bo x : Int} {kq : Nat} (h : MinusInv a b out bo x kq) (hle : b.length ≤ a.length) (hv : val b ≤ val a) (hb : Lim b) (hx : ¬ x < (a.length : Int)) : Lim out ∧ out.length = a.length ∧ val out = val a - val b := by
 obtain ⟨x0, ⟨h1, h2⟩, h3, h4, h5, h6⟩ := h
 have e : x.toNat = a.length := by omega
 rw [e] at h4 h6
 rw [List.take_length, List.take_of_length_le hle] at h6
 have hl := val_lt out h5
 rw [h4] at hl
 have hp := pow_pos a.length
 have h0 : bo = 0 := by
  rcases (by omega : bo = 0 ∨ bo = 1) with h | h
  ·exact h
  ·rw [h, Int.mul_one] at h6
   omega
 rw [h0, Int.mul_zero] at h6
 exact ⟨h5, h4, by omega⟩
theorem minus_calls {w : World} {A B : Option Addr} {n m c d : Nat} {a b : List Int} (h : Dg w (.slice A n c) a) (h' : Dg w (.slice B m d) b) (ha : Lim a) (hb : Lim b) (hle : b.length ≤ a.length) (hv : val b ≤ val a) (hm : a.length ≤ 20000000000000) :
  Calls Tryz.prog 173 #[.slice A n c, .slice B m d] w fun e w' => Below w.heap.size w w' ∧ ∃ l, Lim l ∧ val l = val a - val b ∧ l.length = a.length ∧ RD l e w' := by
 obtain rfl := h.C.1
 obtain rfl := h'.C.1
 have D := Aside0.mk h
 have D' := Aside0.mk h'
 have HLa := Aside0.mk ha
 have HLb := Aside0.mk hb
 have HM := Aside0.mk hm
 have HLE := Aside0.mk hle
 have HV := Aside0.mk hv
 have HB := Aside0.mk (Below.refl w.heap.size w)
 clear h h' ha hb hle hm hv
 go_enter Tryz.func173, Tryz.ntmps173
 go_wp2_with (at_make; refine cap32 (w := w) (n := (a.length : Int)) (by rfl) (by rfl) (by rfl) (by rfl) (by rfl) (by omega) (by have := HM.out; omega) HB.out ?_; clear HB; intro v1 w1 ho hb; have HO := Aside0.mk ho; have HB := Aside0.mk hb; clear ho hb)
 go_loopg [5, 6, 15] (a.length + 1) (fun kq v5 v6 v15 w' => ∃ (out : List Int) (bo x : Int), v6 = .int .u32 bo ∧ v15 = .int .i64 x ∧ Aside0 (MinusInv a b out bo x kq) ∧ Aside0 (Own32 w w' v5 out) ∧ Aside0 (Below w.heap.size w w'))
 case atStart => exact ⟨[], 0, 0, rfl, rfl, ⟨by simp [MinusInv, val, Lim.nil]⟩, HO, HB⟩
 case round =>
  clear HO HB
  obtain ⟨out, bo, x, rfl, rfl, INV, HO, HB⟩ := hrel
  have x0 : 0 ≤ x := INV.out.1
  by_cases hx : x < (a.length : Int)
  ·have hxb : decide (x < (a.length : Int)) = true := decide_eq_true hx
   obtain ⟨ad, eA, cA⟩ := Dg.digit D.out HB.out x x0 hx
   cases eA
   have HX := Aside0.mk hx
   have hx1 : (0 ≤ x) = True := eq_true x0
   have hx2 : (x < (a.length : Int)) = True := eq_true hx
   clear hx
   by_cases hy : x < (b.length : Int)
   ·have hyb : decide (x < (b.length : Int)) = true := decide_eq_true hy
    obtain ⟨ad2, eB, cB⟩ := Dg.digit D'.out HB.out x x0 hy
    cases eB
    have HY := Aside0.mk hy
    have hy2 : (x < (b.length : Int)) = True := eq_true hy
    clear hy
    go_wp2_with (at_builtin; refine app32 (w := w) (v := u5) (l := out) (by rfl) (by rfl) (by rfl) (by rfl) HO.out HB.out (by have := INV.out.2.2.2.1; have := INV.out.2.1.1; have := HM.out; omega) ?_; clear HB HO; intro v1 w1 ho hb; have HO := Aside0.mk ho; have HB := Aside0.mk hb; clear ho hb)
    all_goals rename_i hbo
    ·have hn := INV.out.next HLa.out HLb.out HM.out HX.out (rd b x) _ 1 (by have := HY.out; rw [if_pos (by omega)]) rfl (.inl ⟨rfl, hbo⟩)
     go_roundg (gk - 1)
     case measure => exact hn.1
     case rel => exact ⟨_, _, _, rfl, rfl, ⟨hn.2⟩, (by simpa using HO), HB⟩
    ·have hn := INV.out.next HLa.out HLb.out HM.out HX.out (rd b x) _ 0 (by have := HY.out; rw [if_pos (by omega)]) rfl (.inr ⟨rfl, hbo⟩)
     go_roundg (gk - 1)
     case measure => exact hn.1
     case rel => exact ⟨_, _, _, rfl, rfl, ⟨hn.2⟩, (by simpa using HO), HB⟩
   ·have hyb : decide (x < (b.length : Int)) = false := decide_eq_false hy
    have HY := Aside0.mk hy
    have hy2 : (x < (b.length : Int)) = False := eq_false hy
    clear hy
    go_wp2_with (at_builtin; refine app32 (w := w) (v := u5) (l := out) (by rfl) (by rfl) (by rfl) (by rfl) HO.out HB.out (by have := INV.out.2.2.2.1; have := INV.out.2.1.1; have := HM.out; omega) ?_; clear HB HO; intro v1 w1 ho hb; have HO := Aside0.mk ho; have HB := Aside0.mk hb; clear ho hb)
    all_goals rename_i hbo
    ·have hn := INV.out.next HLa.out HLb.out HM.out HX.out 0 _ 1 (by have := HY.out; rw [if_neg (by omega)]) rfl (.inl ⟨rfl, (by have := INV.out.2.2.1; omega)⟩)
     go_roundg (gk - 1)
     case measure => exact hn.1
     case rel => exact ⟨_, _, _, rfl, rfl, ⟨hn.2⟩, (by simpa using HO), HB⟩
    ·have hn := INV.out.next HLa.out HLb.out HM.out HX.out 0 _ 0 (by have := HY.out; rw [if_neg (by omega)]) rfl (.inr ⟨rfl, (by have := INV.out.2.2.1; omega)⟩)
     go_roundg (gk - 1)
     case measure => exact hn.1
     case rel => exact ⟨_, _, _, rfl, rfl, ⟨hn.2⟩, (by simpa using HO), HB⟩
  ·have hxb : decide (x < (a.length : Int)) = false := decide_eq_false hx
   have HX := Aside0.mk hx
   have hx2 : (x < (a.length : Int)) = False := eq_false hx
   clear hx
   go_wp2
   go_ret
   have hf := INV.out.fin HLE.out HV.out HLb.out (by have := HX.out; omega)
   obtain ⟨A', c', rfl, h4, h5⟩ := Dg.of_R HO.out
   exact ⟨HB.out, _, hf.1, hf.2.2, hf.2.1, A', c', rfl, A', c', rfl, h4, h5⟩
theorem abs_len {a b : Int} (h : (a.natAbs : Int) ≤ b.natAbs) : (dg a.natAbs).length ≤ (dg b.natAbs).length := by
 refine Nat.le_of_not_lt fun hl => ?_
 have := can_len_lt (dg_canon b) (dg_canon a) hl
 rw [val_dg, val_dg] at this
 omega
theorem add_calls {W : World} {b b' : Bool} {A A' : Option Addr} {n c n' c' : Nat} {z z' : Int} (h : Wh W b (.slice A n c) z) (h' : Wh W b' (.slice A' n' c') z') (hf : Fits z) (hf' : Fits z') :
  Calls Tryz.prog 123 #[.agg #[.bool b, .slice A n c], .agg #[.bool b', .slice A' n' c']] W fun e w' => Below W.heap.size W w' ∧ RW (z + z') e w' := by
 have E := ((Env.start W).wh h).wh h'
 have hb := Aside0.mk h.1
 have hb' := Aside0.mk h'.1
 have HF := Aside0.mk hf
 have HF' := Aside0.mk hf'
 have v1 := Aside0.mk (val_dg z)
 have v2 := Aside0.mk (val_dg z')
 obtain rfl := h.2.C.1
 obtain rfl := h'.2.C.1
 clear h h' hf hf'
 by_cases hs : sgnI (val (dg z.natAbs) - val (dg z'.natAbs)) < 0
 ·have hsb : decide (sgnI (val (dg z.natAbs) - val (dg z'.natAbs)) < 0) = true := decide_eq_true hs
  have HS := Aside0.mk (show val (dg z.natAbs) < val (dg z'.natAbs) by rw [sgnI_neg] at hs; omega)
  clear hs
  cases b <;> cases b' <;>
  ·go_enter Tryz.func123, Tryz.ntmps123
   go_wp2_with (first | ((with_reducible first | refine gate_box (by rfl) ?_ | refine gate_alloc (by rfl) ?_); refine bx_ E ?_; clear E; intro gb wb E; have q := E.cls; (repeat obtain ⟨_, _, q⟩ := q); clear q) | ((with_reducible refine gate_stored (t := 77) (by rfl) ?_); refine st_ (fun ws hs_ => ?_); replace E := Env.pt2 hs_ E; clear hs_; have q := E.cls; (repeat obtain ⟨_, _, q⟩ := q); clear q) | ((with_reducible refine gate_stored (t := 84) (by rfl) ?_); refine st_ (fun ws hs_ => ?_); replace E := Env.pt4 hs_ E; clear hs_; have q := E.cls; (repeat obtain ⟨_, _, q⟩ := q); clear q) | (go_at_call 172; refine env_call E (size_calls E.getW.2 E.getW.2 (dg_canon _) (dg_canon _)) ?_; clear E; rintro e wc E rfl; have q := E.cls; (repeat obtain ⟨_, _, q⟩ := q); clear q) | (refine start_ (id := 2) (n := 9) (S := fun w' => Cls w' _) (ds := [8]) (bz 9 0) (by kernel_rfl) rfl rfl E.draw.cls (fun hH => ?_); replace E := E.draw; refine pu_ 0 (some 11) (bz 9 1) ?_; refine pu_ 2 (some 13) (bz 9 5) ?_; refine pu_ 4 (some 15) (bz 9 21) ?_; refine ta_ 1 (some 12) (bz 9 23) hH ?_; refine ta_ 3 (some 14) (bz 9 31) hH ?_; refine ta_ 5 (some 16) (bz 9 63) hH ?_; refine on_ 6 (some 17) (bz 9 127) (fun K hK => ?_); refine gs_ Tryz.func171 ?_; refine env_call E (plus_calls E.getW.2 E.getW.2 (dg_lim _) (dg_lim _) HF.out HF'.out) ?_; clear E; rintro e wc E ⟨lr, hl1, hl2, hl3, Ar, cr, rfl, hw_⟩; replace E := E.dg hw_; clear hw_; have LL := Aside0.mk (And.intro hl1 (And.intro hl2 hl3)); clear hl1 hl2 hl3; refine ⟨_, rfl, ?_⟩; refine hK.out _ _ E.cls (fun hH => ?_); clear hK K; refine nm_ (some 17) ?_; refine on_ 7 (some 18) (bz 9 255) (fun K hK => ?_); refine gs_ Tryz.func153 ?_; refine env_call E (signed_calls E.getD LL.out.1) ?_; clear E; rintro e wc E ⟨br, Ar, nr, cr, rfl, hw_⟩; replace E := E.wh hw_; clear hw_; refine ⟨_, rfl, ?_⟩; refine hK.out _ _ E.cls (fun hH => ?_); clear hK K; refine nm_ (some 18) ?_; refine la_ 8 (none) (bz 9 511) (fun K hK => ?_); have q := E.cls; (repeat obtain ⟨_, _, q⟩ := q); clear q; refine sk_ (fun ws hs_ => ?_); replace E := Env.pt2 hs_ E; clear hs_; refine hK.out _ _ ?_; clear hK K; have q := E.cls; (repeat obtain ⟨_, _, q⟩ := q); clear q; refine done_ (by kernel_rfl) ?_; all_goals (have q := E.cls; (repeat obtain ⟨_, _, q⟩ := q); clear q)) | (refine start_ (id := 4) (n := 9) (S := fun w' => Cls w' _) (ds := [8]) (bz 9 0) (by kernel_rfl) rfl rfl E.draw.cls (fun hH => ?_); replace E := E.draw; refine pu_ 0 (some 26) (bz 9 1) ?_; refine pu_ 2 (some 28) (bz 9 5) ?_; refine pu_ 4 (some 30) (bz 9 21) ?_; refine ta_ 1 (some 27) (bz 9 23) hH ?_; refine ta_ 3 (some 29) (bz 9 31) hH ?_; refine ta_ 5 (some 31) (bz 9 63) hH ?_; refine on_ 6 (some 32) (bz 9 127) (fun K hK => ?_); refine gs_ Tryz.func173 ?_; refine env_call E (minus_calls E.getW.2 E.getW.2 (dg_lim _) (dg_lim _) (abs_len (by have h1 := HS.out; have v1 := v1.out; have v2 := v2.out; omega)) (by have h1 := HS.out; omega) HF'.out) ?_; clear E; rintro e wc E ⟨lr, hl1, hl2, hl3, Ar, cr, rfl, hw_⟩; replace E := E.dg hw_; clear hw_; have LL := Aside0.mk (And.intro hl1 (And.intro hl2 hl3)); clear hl1 hl2 hl3; refine ⟨_, rfl, ?_⟩; refine hK.out _ _ E.cls (fun hH => ?_); clear hK K; refine nm_ (some 32) ?_; refine on_ 7 (some 33) (bz 9 255) (fun K hK => ?_); refine gs_ Tryz.func153 ?_; refine env_call E (signed_calls E.getD LL.out.1) ?_; clear E; rintro e wc E ⟨br, Ar, nr, cr, rfl, hw_⟩; replace E := E.wh hw_; clear hw_; refine ⟨_, rfl, ?_⟩; refine hK.out _ _ E.cls (fun hH => ?_); clear hK K; refine nm_ (some 33) ?_; refine la_ 8 (none) (bz 9 511) (fun K hK => ?_); have q := E.cls; (repeat obtain ⟨_, _, q⟩ := q); clear q; refine sk_ (fun ws hs_ => ?_); replace E := Env.pt2 hs_ E; clear hs_; refine hK.out _ _ ?_; clear hK K; have q := E.cls; (repeat obtain ⟨_, _, q⟩ := q); clear q; refine done_ (by kernel_rfl) ?_; all_goals (have q := E.cls; (repeat obtain ⟨_, _, q⟩ := q); clear q)))
   refine bodyPost_ret (results_single rfl (.cell _ _ _ (0, 0) _ rfl E.blk Tryz.underlying77 rfl (by kernel_rfl) .nil)) rfl ?_
   refine ⟨E.below, RW.mk (E.getW.eq ?_)⟩
   have h1 := hb.out
   have h2 := hb'.out
   have v1 := v1.out
   have v2 := v2.out
   have h3 := LL.out.2.1
   have h4 := HS.out
   clear HF HF' HS LL
   simp only [Bool.false_eq, Bool.true_eq, decide_eq_true_eq, decide_eq_false_iff_not] at h1 h2
   first | rw [sgnd_true] | rw [sgnd_false]
   omega
 ·have hsb : decide (sgnI (val (dg z.natAbs) - val (dg z'.natAbs)) < 0) = false := decide_eq_false hs
  have HS := Aside0.mk (show val (dg z'.natAbs) ≤ val (dg z.natAbs) by rw [sgnI_neg] at hs; omega)
  clear hs
  cases b <;> cases b' <;>
  ·go_enter Tryz.func123, Tryz.ntmps123
   go_wp2_with (first | ((with_reducible first | refine gate_box (by rfl) ?_ | refine gate_alloc (by rfl) ?_); refine bx_ E ?_; clear E; intro gb wb E; have q := E.cls; (repeat obtain ⟨_, _, q⟩ := q); clear q) | ((with_reducible refine gate_stored (t := 77) (by rfl) ?_); refine st_ (fun ws hs_ => ?_); replace E := Env.pt2 hs_ E; clear hs_; have q := E.cls; (repeat obtain ⟨_, _, q⟩ := q); clear q) | ((with_reducible refine gate_stored (t := 84) (by rfl) ?_); refine st_ (fun ws hs_ => ?_); replace E := Env.pt4 hs_ E; clear hs_; have q := E.cls; (repeat obtain ⟨_, _, q⟩ := q); clear q) | (go_at_call 172; refine env_call E (size_calls E.getW.2 E.getW.2 (dg_canon _) (dg_canon _)) ?_; clear E; rintro e wc E rfl; have q := E.cls; (repeat obtain ⟨_, _, q⟩ := q); clear q) | (refine start_ (id := 2) (n := 9) (S := fun w' => Cls w' _) (ds := [8]) (bz 9 0) (by kernel_rfl) rfl rfl E.draw.cls (fun hH => ?_); replace E := E.draw; refine pu_ 0 (some 11) (bz 9 1) ?_; refine pu_ 2 (some 13) (bz 9 5) ?_; refine pu_ 4 (some 15) (bz 9 21) ?_; refine ta_ 1 (some 12) (bz 9 23) hH ?_; refine ta_ 3 (some 14) (bz 9 31) hH ?_; refine ta_ 5 (some 16) (bz 9 63) hH ?_; refine on_ 6 (some 17) (bz 9 127) (fun K hK => ?_); refine gs_ Tryz.func171 ?_; refine env_call E (plus_calls E.getW.2 E.getW.2 (dg_lim _) (dg_lim _) HF.out HF'.out) ?_; clear E; rintro e wc E ⟨lr, hl1, hl2, hl3, Ar, cr, rfl, hw_⟩; replace E := E.dg hw_; clear hw_; have LL := Aside0.mk (And.intro hl1 (And.intro hl2 hl3)); clear hl1 hl2 hl3; refine ⟨_, rfl, ?_⟩; refine hK.out _ _ E.cls (fun hH => ?_); clear hK K; refine nm_ (some 17) ?_; refine on_ 7 (some 18) (bz 9 255) (fun K hK => ?_); refine gs_ Tryz.func153 ?_; refine env_call E (signed_calls E.getD LL.out.1) ?_; clear E; rintro e wc E ⟨br, Ar, nr, cr, rfl, hw_⟩; replace E := E.wh hw_; clear hw_; refine ⟨_, rfl, ?_⟩; refine hK.out _ _ E.cls (fun hH => ?_); clear hK K; refine nm_ (some 18) ?_; refine la_ 8 (none) (bz 9 511) (fun K hK => ?_); have q := E.cls; (repeat obtain ⟨_, _, q⟩ := q); clear q; refine sk_ (fun ws hs_ => ?_); replace E := Env.pt2 hs_ E; clear hs_; refine hK.out _ _ ?_; clear hK K; have q := E.cls; (repeat obtain ⟨_, _, q⟩ := q); clear q; refine done_ (by kernel_rfl) ?_; all_goals (have q := E.cls; (repeat obtain ⟨_, _, q⟩ := q); clear q)) | (refine start_ (id := 5) (n := 9) (S := fun w' => Cls w' _) (ds := [8]) (bz 9 0) (by kernel_rfl) rfl rfl E.draw.cls (fun hH => ?_); replace E := E.draw; refine pu_ 0 (some 34) (bz 9 1) ?_; refine pu_ 2 (some 36) (bz 9 5) ?_; refine pu_ 4 (some 38) (bz 9 21) ?_; refine ta_ 1 (some 35) (bz 9 23) hH ?_; refine ta_ 3 (some 37) (bz 9 31) hH ?_; refine ta_ 5 (some 39) (bz 9 63) hH ?_; refine on_ 6 (some 40) (bz 9 127) (fun K hK => ?_); refine gs_ Tryz.func173 ?_; refine env_call E (minus_calls E.getW.2 E.getW.2 (dg_lim _) (dg_lim _) (abs_len (by have h1 := HS.out; have v1 := v1.out; have v2 := v2.out; omega)) (by have h1 := HS.out; omega) HF.out) ?_; clear E; rintro e wc E ⟨lr, hl1, hl2, hl3, Ar, cr, rfl, hw_⟩; replace E := E.dg hw_; clear hw_; have LL := Aside0.mk (And.intro hl1 (And.intro hl2 hl3)); clear hl1 hl2 hl3; refine ⟨_, rfl, ?_⟩; refine hK.out _ _ E.cls (fun hH => ?_); clear hK K; refine nm_ (some 40) ?_; refine on_ 7 (some 41) (bz 9 255) (fun K hK => ?_); refine gs_ Tryz.func153 ?_; refine env_call E (signed_calls E.getD LL.out.1) ?_; clear E; rintro e wc E ⟨br, Ar, nr, cr, rfl, hw_⟩; replace E := E.wh hw_; clear hw_; refine ⟨_, rfl, ?_⟩; refine hK.out _ _ E.cls (fun hH => ?_); clear hK K; refine nm_ (some 41) ?_; refine la_ 8 (none) (bz 9 511) (fun K hK => ?_); have q := E.cls; (repeat obtain ⟨_, _, q⟩ := q); clear q; refine sk_ (fun ws hs_ => ?_); replace E := Env.pt2 hs_ E; clear hs_; refine hK.out _ _ ?_; clear hK K; have q := E.cls; (repeat obtain ⟨_, _, q⟩ := q); clear q; refine done_ (by kernel_rfl) ?_; all_goals (have q := E.cls; (repeat obtain ⟨_, _, q⟩ := q); clear q)))
   refine bodyPost_ret (results_single rfl (.cell _ _ _ (0, 0) _ rfl E.blk Tryz.underlying77 rfl (by kernel_rfl) .nil)) rfl ?_
   refine ⟨E.below, RW.mk (E.getW.eq ?_)⟩
   have h1 := hb.out
   have h2 := hb'.out
   have v1 := v1.out
   have v2 := v2.out
   have h3 := LL.out.2.1
   have h4 := HS.out
   clear HF HF' HS LL
   simp only [Bool.false_eq, Bool.true_eq, decide_eq_true_eq, decide_eq_false_iff_not] at h1 h2
   first | rw [sgnd_true] | rw [sgnd_false]
   omega
theorem dg_abs_len {z : Int} {k : Nat} (h : (z.natAbs : Int) < 1000000000 ^ k) : (dg z.natAbs).length ≤ k := by
 refine Nat.le_of_not_lt fun hl => ?_
 have hn : dg z.natAbs ≠ [] := by intro e; rw [e] at hl; simp at hl
 have h1 := can_low _ (dg_canon z) hn
 rw [val_dg] at h1
 have h2 : (1000000000 : Int) ^ k ≤ 1000000000 ^ ((dg z.natAbs).length - 1) := pow_mono (by omega)
 omega
theorem len_bound (z : Int) : (z.natAbs : Int) < 1000000000 ^ (dg z.natAbs).length := by
 have := val_lt _ (dg_lim z)
 rw [val_dg] at this
 exact this
theorem len_mono {k z : Int} (h : k.natAbs ≤ z.natAbs) : (dg k.natAbs).length ≤ (dg z.natAbs).length := abs_len (by omega)
theorem len_add (a b : Int) : (dg (a + b).natAbs).length ≤ max (dg a.natAbs).length (dg b.natAbs).length + 1 := by
 refine dg_abs_len ?_
 have h1 := len_bound a
 have h2 := len_bound b
 have m1 : (1000000000 : Int) ^ (dg a.natAbs).length ≤ 1000000000 ^ max (dg a.natAbs).length (dg b.natAbs).length := pow_mono (by omega)
 have m2 : (1000000000 : Int) ^ (dg b.natAbs).length ≤ 1000000000 ^ max (dg a.natAbs).length (dg b.natAbs).length := pow_mono (by omega)
 rw [Int.pow_succ]
 omega
theorem len_mul (a b : Int) : (dg (a * b).natAbs).length ≤ (dg a.natAbs).length + (dg b.natAbs).length := by
 refine dg_abs_len ?_
 have h1 := len_bound a
 have h2 := len_bound b
 rw [Int.natAbs_mul, Int.pow_add]
 generalize (dg a.natAbs).length = x at *
 generalize (dg b.natAbs).length = y at *
 have e : ∀ k : Nat, (1000000000 : Int) ^ k = ((1000000000 ^ k : Nat) : Int) := fun k => by simp
 rw [e] at h1 h2
 rw [e, e, ← Int.natCast_mul]
 have := Nat.mul_lt_mul'' (show a.natAbs < 1000000000 ^ x by omega) (show b.natAbs < 1000000000 ^ y by omega)
 omega
theorem len_neg (a : Int) : (dg (-a).natAbs).length = (dg a.natAbs).length := by rw [Int.natAbs_neg]
theorem sub_calls {W : World} {b b' : Bool} {A A' : Option Addr} {n c n' c' : Nat} {z z' : Int} (h : Wh W b (.slice A n c) z) (h' : Wh W b' (.slice A' n' c') z') (hf : Fits z) (hf' : Fits z') :
  Calls Tryz.prog 169 #[.agg #[.bool b, .slice A n c], .agg #[.bool b', .slice A' n' c']] W fun e w' => Below W.heap.size W w' ∧ RW (z - z') e w' := by
 have E := ((Env.start W).wh h).wh h'
 have HF := Aside0.mk hf
 have HF' := Aside0.mk (show Fits (-z') by unfold Fits; rw [len_neg]; exact hf')
 obtain rfl := h.2.C.1
 obtain rfl := h'.2.C.1
 clear h h' hf hf'
 go_enter Tryz.func169, Tryz.ntmps169
 go_wp2_with (first | ((with_reducible first | refine gate_box (by rfl) ?_ | refine gate_alloc (by rfl) ?_); refine bx_ E ?_; clear E; intro gb wb E; have q := E.cls; (repeat obtain ⟨_, _, q⟩ := q); clear q) | ((with_reducible refine gate_stored (t := 77) (by rfl) ?_); refine st_ (fun ws hs_ => ?_); replace E := Env.pt2 hs_ E; clear hs_; have q := E.cls; (repeat obtain ⟨_, _, q⟩ := q); clear q) | ((with_reducible refine gate_stored (t := 84) (by rfl) ?_); refine st_ (fun ws hs_ => ?_); replace E := Env.pt4 hs_ E; clear hs_; have q := E.cls; (repeat obtain ⟨_, _, q⟩ := q); clear q) | (refine start_ (id := 1) (n := 5) (S := fun w' => Cls w' _) (ds := [4]) (bz 5 0) (by kernel_rfl) rfl rfl E.draw.cls (fun hH => ?_); replace E := E.draw; refine ta_ 0 (some 5) (bz 5 1) hH ?_; refine ta_ 1 (some 6) (bz 5 3) hH ?_; refine on_ 2 (some 7) (bz 5 7) (fun K hK => ?_); refine gs_ Tryz.func86 ?_; refine env_call E (neg_calls E.getW) ?_; clear E; rintro e wc E ⟨br, Ar, nr, cr, rfl, hw_⟩; replace E := E.wh hw_; clear hw_; refine ⟨_, rfl, ?_⟩; refine hK.out _ _ E.cls (fun hH => ?_); clear hK K; refine nm_ (some 7) ?_; refine on_ 3 (some 8) (bz 5 15) (fun K hK => ?_); refine gs_ Tryz.func123 ?_; refine env_call E (add_calls E.getW E.getW HF.out HF'.out) ?_; clear E; rintro e wc E ⟨br, Ar, nr, cr, rfl, hw_⟩; replace E := E.wh hw_; clear hw_; refine ⟨_, rfl, ?_⟩; refine hK.out _ _ E.cls (fun hH => ?_); clear hK K; refine nm_ (some 8) ?_; refine la_ 4 (none) (bz 5 31) (fun K hK => ?_); have q := E.cls; (repeat obtain ⟨_, _, q⟩ := q); clear q; refine sk_ (fun ws hs_ => ?_); replace E := Env.pt2 hs_ E; clear hs_; refine hK.out _ _ ?_; clear hK K; have q := E.cls; (repeat obtain ⟨_, _, q⟩ := q); clear q; refine done_ (by kernel_rfl) ?_; all_goals (have q := E.cls; (repeat obtain ⟨_, _, q⟩ := q); clear q)))
 refine bodyPost_ret (results_single rfl (.cell _ _ _ (0, 0) _ rfl E.blk Tryz.underlying77 rfl (by kernel_rfl) .nil)) rfl ?_
 exact ⟨E.below, RW.mk (E.getW.eq (by omega))⟩
theorem mk32 {ops : Array Oper} {o : Oper} {rest : List Oper} {a : Act} {Q : Exit → Act → World → Prop} {w W : World} {x y : Operand} {N : Tmp} {n : Int} (hgd : o.guard = none) (hd : o.dst = some N) (ho : o.op = .makeSlice 75 x y) (hx : a.eval x = .int .i64 n) (hy : a.eval y = .int .i64 n) (h0 : 0 ≤ n) (hn : n ≤ 60000000000000) (HB : Below w.heap.size w W)
  (h : ∀ v1 w1, Own32 w w1 v1 (List.replicate n.toNat 0) → Below w.heap.size w w1 → wpList Tryz.prog ops Q rest (a.put o.dst v1) w1) : wpList Tryz.prog ops Q (o :: rest) a W :=
 Kd.R_make KU w.heap.size 145 hgd hd 75 x y ho n hx hy Tryz.underlying75 (.int .u32 0) 4 info145 rfl (by decide) (by omega) 0 (ok := fun _ => True) (okp := fun _ => True) rfl (fun _ hk => hk) trivial h0 (by omega) HB HB.size (fun v1 w1 h1 h2 _ _ => h v1 w1 h1 h2)
theorem Dg.digitB {W : World} {A : Option Addr} {n c : Nat} {l : List Int} (h : Dg W (.slice A n c) l) (x : Int) (h0 : 0 ≤ x) (h1 : x < (l.length : Int)) : ∃ ad, A = some ad ∧ W.cell? (ad.add x.toNat) = some (.int .u32 (rd l x)) := Kd.at_int h.C.2.2 x h0 h1
theorem val_set : ∀ (l : List Int) (i : Nat) (y : Int), i < l.length → val (l.set i y) = val l + 1000000000 ^ i * (y - rd l (i : Int))
 |[], i, y, h => by cases h
 |x :: l, 0, y, _ => by simp [val, rd]; omega
 |x :: l, i + 1, y, h => by
  have ih := val_set l i y (by simpa using h)
  have e : rd (x :: l) ((i + 1 : Nat) : Int) = rd l (i : Int) := by
   unfold rd
   simp only [Int.toNat_natCast, List.getD_cons_succ]
  rw [List.set_cons_succ, val, val, ih, e, Int.pow_succ]
  grind
theorem Lim.set {l : List Int} (h : Lim l) (i : Nat) {y : Int} (h0 : 0 ≤ y) (h1 : y < 1000000000) : Lim (l.set i y) := fun x hx => by
 rcases List.mem_or_eq_of_mem_set hx with hx | rfl
 ·exact h x hx
 ·exact ⟨h0, h1⟩
theorem rd_set_ne {l : List Int} {i j : Nat} (y : Int) (h : i ≠ j) : rd (l.set i y) (j : Int) = rd l (j : Int) := by
 unfold rd
 simp [List.getD_eq_getElem?_getD, List.getElem?_set_ne h]
def MulInv (a b out : List Int) (x : Int) (kq : Nat) : Prop := 0 ≤ x ∧ (x.toNat ≤ a.length ∧ (kq : Int) = a.length + 1 - x) ∧ out.length = a.length + b.length ∧ Lim out ∧ val out = val (a.take x.toNat) * val b ∧ ∀ j : Nat, x.toNat + b.length ≤ j → rd out (j : Int) = 0
def MulInn (a b out : List Int) (x c y : Int) (kq : Nat) : Prop := (0 ≤ x ∧ x < (a.length : Int)) ∧ 0 ≤ y ∧ (y.toNat ≤ b.length ∧ (kq : Int) = b.length + 1 - y) ∧ (0 ≤ c ∧ c < 1000000000) ∧ out.length = a.length + b.length ∧ Lim out ∧
 val out + 1000000000 ^ (x.toNat + y.toNat) * c = val (a.take x.toNat) * val b + 1000000000 ^ x.toNat * rd a x * val (b.take y.toNat) ∧ ∀ j : Nat, x.toNat + b.length ≤ j → rd out (j : Int) = 0
theorem MulInn.start {a b out : List Int} {x : Int} {kq : Nat} (h : MulInv a b out x kq) (hx : x < (a.length : Int)) : MulInn a b out x 0 0 (b.length + 1) := by
 obtain ⟨x0, ⟨h1, h2⟩, h3, h4, h5, h6⟩ := h
 exact ⟨⟨x0, hx⟩, by omega, ⟨by simp, by omega⟩, by omega, h3, h4, by simp [val, h5], h6⟩
theorem prod_lt {x y : Int} (hx : 0 ≤ x ∧ x < 1000000000) (hy : 0 ≤ y ∧ y < 1000000000) : 0 ≤ x * y ∧ x * y ≤ 999999998000000001 := by
 have h1 := Int.mul_nonneg hx.1 hy.1
 have h2 : x * y ≤ 999999999 * y := Int.mul_le_mul_of_nonneg_right (by omega) hy.1
 omega
theorem MulInn.next {a b out : List Int} {x c y : Int} {kq : Nat} (h : MulInn a b out x c y kq) (ha : Lim a) (hb : Lim b) (hm : a.length + b.length ≤ 40000000000000) (hy : y < (b.length : Int)) (t : Int) (ht : t = c + (rd a x * rd b y + rd out (x + y))) :
  (0 ≤ t ∧ t < 1000000000000000000) ∧ kq - 1 < kq ∧ MulInn a b (out.set (x + y).toNat (t % 1000000000)) x (t / 1000000000) (wrap64 (y + 1)) (kq - 1) := by
 obtain ⟨⟨x0, x1⟩, y0, ⟨h1, h2⟩, h3, h4, h5, h6, h7⟩ := h
 obtain ⟨i, rfl⟩ := Int.eq_ofNat_of_zero_le x0
 obtain ⟨j, rfl⟩ := Int.eq_ofNat_of_zero_le y0
 simp only [Int.toNat_natCast] at h1 h6 h7
 replace h6 := Aside0.mk h6
 have hi : i < a.length := by omega
 have hj : j < b.length := by omega
 have r1 := ha.rd i hi
 have r2 := hb.rd j hj
 have hij : i + j < out.length := by omega
 have r3 := h5.rd (i + j) hij
 have ec : (i : Int) + (j : Int) = ((i + j : Nat) : Int) := by omega
 rw [ec] at ht ⊢
 have hp := prod_lt r1 r2
 have t0 : 0 ≤ t ∧ t < 1000000000000000000 := by omega
 have e : wrap64 ((j : Int) + 1) = ((j + 1 : Nat) : Int) := by rw [wrap_id (by omega) (by omega)]; omega
 rw [e]
 have hm1 : 0 ≤ t % 1000000000 ∧ t % 1000000000 < 1000000000 := ⟨Int.emod_nonneg _ (by decide), Int.emod_lt_of_pos _ (by decide)⟩
 have hd1 : 0 ≤ t / 1000000000 ∧ t / 1000000000 < 1000000000 := by omega
 refine ⟨t0, by omega, ⟨by omega, x1⟩, Int.natCast_nonneg _, ⟨?_, ?_⟩, hd1, by rw [List.length_set]; exact h4, h5.set _ hm1.1 hm1.2, ?_, fun k hk => ?_⟩
 ·simp only [Int.toNat_natCast]; omega
 ·omega
 ·simp only [Int.toNat_natCast]
  rw [val_set out (i + j) _ hij]
  have e2 : val (b.take (j + 1)) = val (b.take j) + 1000000000 ^ j * rd b (j : Int) := by
   rw [take_snoc b j hj, val_append, List.length_take, Nat.min_eq_left (by omega)]; simp [val]
  have e3 := Int.emod_add_mul_ediv t 1000000000
  rw [e2, show i + (j + 1) = (i + j) + 1 by omega, Int.pow_succ, Int.pow_add]
  replace h6 := h6.out
  rw [Int.pow_add] at h6
  generalize t % 1000000000 = tm at *
  generalize t / 1000000000 = td at *
  clear hm1 hd1 t0 hp r1 r2 r3 e h7
  grind
 ·have hk' : i + b.length ≤ k := by simpa using hk
  have hne : i + j ≠ k := by clear hm1 hd1 t0 hp r1 r2 r3 ht h4; omega
  simp only [Int.toNat_natCast]
  rw [rd_set_ne _ hne]
  exact h7 k hk'
theorem MulInn.fin {a b out : List Int} {x c y : Int} {kq : Nat} (h : MulInn a b out x c y kq) (hm : a.length + b.length ≤ 40000000000000) (hy : ¬ y < (b.length : Int)) :
  MulInv a b (out.set (x + b.length).toNat (c % 4294967296)) (wrap64 (x + 1)) ((a.length : Int) - x).toNat := by
 obtain ⟨⟨x0, x1⟩, y0, ⟨h1, h2⟩, h3, h4, h5, h6, h7⟩ := h
 obtain ⟨i, rfl⟩ := Int.eq_ofNat_of_zero_le x0
 have ey : y.toNat = b.length := by clear h6; omega
 rw [ey, List.take_length] at h6
 simp only [Int.toNat_natCast] at h6 h7
 replace h6 := Aside0.mk h6
 have hi : i < a.length := by omega
 have e : wrap64 ((i : Int) + 1) = ((i + 1 : Nat) : Int) := by rw [wrap_id (by omega) (by omega)]; omega
 have ec : (i : Int) + (b.length : Int) = ((i + b.length : Nat) : Int) := by omega
 have z := h7 (i + b.length) (by omega)
 have ec2 : c % 4294967296 = c := by omega
 rw [e, ec, ec2]
 refine ⟨Int.natCast_nonneg _, ⟨?_, ?_⟩, by rw [List.length_set]; exact h4, h5.set _ h3.1 h3.2, ?_, fun k hk => ?_⟩
 ·simp only [Int.toNat_natCast]; omega
 ·omega
 ·simp only [Int.toNat_natCast]
  rw [val_set out (i + b.length) _ (by omega), z, take_snoc a i hi, val_append, List.length_take, Nat.min_eq_left (by omega)]
  have e2 : val [rd a (i : Int)] = rd a (i : Int) := by simp [val]
  rw [e2]
  have h6 := h6.out
  generalize (1000000000 : Int) ^ (i + b.length) = p at *
  generalize (1000000000 : Int) ^ i = q at *
  clear h7 h5 h3 e ec z
  grind
 ·have hk' : i + 1 + b.length ≤ k := by simpa using hk
  simp only [Int.toNat_natCast]
  rw [rd_set_ne _ (by omega)]
  exact h7 k (by omega)
theorem MulInn.walk {a b out : List Int} {x c y : Int} {kq : Nat} (h : MulInn a b out x c y kq) (ha : Lim a) (hb : Lim b) (hm : a.length + b.length ≤ 40000000000000) (hy : y < (b.length : Int)) (T : Int)
  (hT : T = IntKind.u64.wrap (c + IntKind.u64.wrap (IntKind.u64.wrap (IntKind.u64.wrap (rd a x) * IntKind.u64.wrap (rd b y)) + IntKind.u64.wrap (rdOf 0 out (x + y))))) :
  kq - 1 < kq ∧ MulInn a b (out.set (x + y).toNat (T.tmod 1000000000 % 4294967296)) x (IntKind.u64.wrap (T.tdiv 1000000000)) (wrap64 (y + 1)) (kq - 1) := by
 have hn := h.next ha hb hm hy _ rfl
 obtain ⟨⟨x0, x1⟩, y0, ⟨h1, h2⟩, h3, h4, h5, -⟩ := h
 have r1 : 0 ≤ rd a x ∧ rd a x < 1000000000 := by
  obtain ⟨i, rfl⟩ := Int.eq_ofNat_of_zero_le x0
  exact ha.rd i (by omega)
 have r2 : 0 ≤ rd b y ∧ rd b y < 1000000000 := by
  obtain ⟨i, rfl⟩ := Int.eq_ofNat_of_zero_le y0
  exact hb.rd i (by omega)
 have e0 : rdOf 0 out (x + y) = rd out (x + y) := rfl
 have r3 : 0 ≤ rd out (x + y) ∧ rd out (x + y) < 1000000000 := by
  obtain ⟨i, hi⟩ := Int.eq_ofNat_of_zero_le (show 0 ≤ x + y by omega)
  rw [hi]
  exact h5.rd i (by omega)
 have hp := prod_lt r1 r2
 have hT' : T = c + (rd a x * rd b y + rd out (x + y)) := by
  rw [hT, e0, u64_id (a := rd a x) r1.1 (by omega), u64_id (a := rd b y) r2.1 (by omega), u64_id (a := rd a x * rd b y) hp.1 (by omega), u64_id (a := rd out (x + y)) r3.1 (by omega), u64_id (a := rd a x * rd b y + rd out (x + y)) (by omega) (by omega), u64_id (by omega) (by omega)]
 rw [← hT'] at hn
 obtain ⟨ht, hk, hi⟩ := hn
 have e1 : T.tmod 1000000000 % 4294967296 = T % 1000000000 := by rw [Int.tmod_eq_emod_of_nonneg ht.1]; omega
 have e2 : IntKind.u64.wrap (T.tdiv 1000000000) = T / 1000000000 := by rw [Int.tdiv_eq_ediv_of_nonneg ht.1, u64_id (by omega) (by omega)]
 rw [e1, e2]
 exact ⟨hk, hi⟩
theorem MulInv.start (a b : List Int) (L : Nat) (hL : L = a.length + b.length) : MulInv a b (List.replicate L 0) 0 (a.length + 1) := by
 refine ⟨by omega, ⟨by simp, by omega⟩, by rw [List.length_replicate, hL], Lim.zeros _, by simp [val_zeros, val], fun j _ => ?_⟩
 unfold rd
 rw [List.getD_eq_getElem?_getD, List.getElem?_replicate]
 split <;> rfl
theorem mul_calls {W : World} {b b' : Bool} {A A' : Option Addr} {n c n' c' : Nat} {z z' : Int} (h : Wh W b (.slice A n c) z) (h' : Wh W b' (.slice A' n' c') z') (hf : (dg z.natAbs).length + (dg z'.natAbs).length ≤ 20000000000000) :
  Calls Tryz.prog 122 #[.agg #[.bool b, .slice A n c], .agg #[.bool b', .slice A' n' c']] W fun e w' => Below W.heap.size W w' ∧ RW (z * z') e w' := by
 have E := ((Env.start W).wh h).wh h'
 have hb := Aside0.mk h.1
 have hb' := Aside0.mk h'.1
 have HF := Aside0.mk hf
 obtain rfl := h.2.C.1
 obtain rfl := h'.2.C.1
 obtain ⟨p, hp⟩ : ∃ p, p = dg z.natAbs := ⟨_, rfl⟩
 obtain ⟨q, hq⟩ : ∃ q, q = dg z'.natAbs := ⟨_, rfl⟩
 rw [← hp, ← hq] at E HF ⊢
 have HP := Aside0.mk hp
 have HQ := Aside0.mk hq
 have hw : IntKind.i64.wrap ((p.length : Int) + (q.length : Int)) = (p.length : Int) + (q.length : Int) := by have := HF.out; rw [i64_w, wrap_id (by omega) (by omega)]
 clear h h' hf hp hq
 go_enter Tryz.func122, Tryz.ntmps122
 go_wp2_with (first | ((with_reducible first | refine gate_box (by rfl) ?_ | refine gate_alloc (by rfl) ?_); refine bx_ E ?_; clear E; intro gb wb E; have q := E.cls; (repeat obtain ⟨_, _, q⟩ := q); clear q) | ((with_reducible refine gate_stored (t := 77) (by rfl) ?_); refine st_ (fun ws hs_ => ?_); replace E := Env.pt2 hs_ E; clear hs_; have q := E.cls; (repeat obtain ⟨_, _, q⟩ := q); clear q) | ((with_reducible refine gate_stored (t := 84) (by rfl) ?_); refine st_ (fun ws hs_ => ?_); replace E := Env.pt4 hs_ E; clear hs_; have q := E.cls; (repeat obtain ⟨_, _, q⟩ := q); clear q) | (at_make; have E0 := Aside0.mk E; have HB := Aside0.mk (Below.refl wb.heap.size wb); refine mk32 (w := wb) (n := (p.length : Int) + (q.length : Int)) (by rfl) (by rfl) (by rfl) (by first | rfl | simp [Act.eval, hw]) (by first | rfl | simp [Act.eval, hw]) (by omega) (by have := HF.out; omega) HB.out ?_; clear HB E; intro v1 w1 ho hb; have HO := Aside0.mk ho; have HB := Aside0.mk hb; have E := E0.out.next hb; clear ho hb; have q := E.cls; (repeat obtain ⟨_, _, q⟩ := q); clear q))
 have hn : ((p.length : Int) + (q.length : Int)).toNat = p.length + q.length := by omega
 rw [hn] at HO
 obtain ⟨Ao, co, rfl⟩ := Kd.R_slice HO.out
 obtain ⟨L, hL⟩ : ∃ L, L = (List.replicate (p.length + q.length) (0 : Int)).length := ⟨_, rfl⟩
 have HL := Aside0.mk (show L = p.length + q.length by rw [hL, List.length_replicate])
 rw [← hL] at HO ⊢
 have INV0 := Aside0.mk (MulInv.start p q _ rfl)
 clear hn hw hL
 go_loopg [22] (p.length + 1) (fun kq v22 w' => ∃ (out : List Int) (x : Int), v22 = .int .i64 x ∧ Aside0 (MulInv p q out x kq) ∧ Aside0 (Own32 wb w' (.slice Ao L co) out) ∧ Aside0 (Below wb.heap.size wb w'))
 case atStart => exact ⟨_, 0, rfl, INV0, HO, HB⟩
 case round =>
  clear HO HB E INV0
  obtain ⟨out, x, rfl, INV, HO, HB⟩ := hrel
  have E := E0.out.next HB.out
  have q := E.cls; (repeat obtain ⟨_, _, q⟩ := q); clear q
  have x0 : 0 ≤ x := INV.out.1
  by_cases hx : x < (p.length : Int)
  ·have hxb : decide (x < (p.length : Int)) = true := decide_eq_true hx
   have dp : Dg wr (.slice A p.length c) p := by have := (E.getW (v := .slice A p.length c) (z := z)).2; rwa [← HP.out] at this
   obtain ⟨ad, eA, cA⟩ := Dg.digitB dp x x0 hx
   cases eA
   have IN0 := Aside0.mk (MulInn.start INV.out hx)
   have HK := Aside0.mk INV.out.2.1.2
   have HX := Aside0.mk hx
   have hx1 : (0 ≤ x) = True := eq_true x0
   have hx2 : (x < (p.length : Int)) = True := eq_true hx
   clear hx dp INV
   go_wp2
   go_loopg [8, 30] (q.length + 1) (fun kq v8 v30 w' => ∃ (out : List Int) (cy y : Int), v8 = .int .u64 cy ∧ v30 = .int .i64 y ∧ Aside0 (MulInn p q out x cy y kq) ∧ Aside0 (Own32 wb w' (.slice Ao L co) out) ∧ Aside0 (Below wb.heap.size wb w'))
   case atStart => exact ⟨_, 0, 0, rfl, rfl, IN0, HO, HB⟩
   case round =>
    clear HO HB E IN0
    obtain ⟨out, cy, y, rfl, rfl, INV, HO, HB⟩ := hrel
    have E := E0.out.next HB.out
    have q := E.cls; (repeat obtain ⟨_, _, q⟩ := q); clear q
    have y0 : 0 ≤ y := INV.out.2.1
    have lo := INV.out.2.2.2.2.1
    by_cases hy : y < (q.length : Int)
    ·have hyb : decide (y < (q.length : Int)) = true := decide_eq_true hy
     have dq : Dg wr (.slice A' q.length c') q := by have := (E.getW (v := .slice A' q.length c') (z := z')).2; rwa [← HQ.out] at this
     obtain ⟨ad2, eB, cB⟩ := Dg.digitB dq y y0 hy
     cases eB
     have HY := Aside0.mk hy
     have hy1 : (0 ≤ y) = True := eq_true y0
     have hy2 : (y < (q.length : Int)) = True := eq_true hy
     have hb3 : x + y < (L : Int) := by have h1 := HX.out; have h2 := HL.out; omega
     have hb4 : 0 ≤ x + y := by omega
     have hw2 : wrap64 (x + y) = x + y := by have h1 := HX.out; have h2 := HF.out; exact wrap_id (by omega) (by omega)
     obtain ⟨g, cap, he, hg0, hgl, cells, hcells⟩ := Kd.R_form HO.out (by rw [lo]; omega)
     have HG0 := Aside0.mk hg0
     obtain ⟨rfl, -, rfl⟩ : Ao = some ⟨g, 0, none⟩ ∧ L = out.length ∧ co = cap := by injection he; exact ⟨by assumption, by assumption, by assumption⟩
     obtain ⟨cO, fO⟩ := Kd.R_celln 0 HO.out (x + y) hb4 hb3
     have hb3' : (x + y < (L : Int)) = True := eq_true hb3
     have hb4' : (0 ≤ x + y) = True := eq_true hb4
     clear hy dq hcells hgl hg0 he lo
     go_wp2
     have hn := INV.out.walk (HP.out ▸ dg_lim z) (HQ.out ▸ dg_lim z') (by have := HF.out; omega) HY.out _ rfl
     go_roundg (gk - 1)
     case measure => exact hn.1
     case rel => exact ⟨_, _, _, rfl, rfl, ⟨hn.2⟩, ⟨Kd.R_putn HO.out _ _⟩, ⟨HB.out.setCell HG0.out _⟩⟩
    ·have hyb : decide (y < (q.length : Int)) = false := decide_eq_false hy
     have hy2 : (y < (q.length : Int)) = False := eq_false hy
     have HY := Aside0.mk hy
     have hb3 : x + (q.length : Int) < (L : Int) := by have h1 := HX.out; have h2 := HL.out; omega
     have hb4 : 0 ≤ x + (q.length : Int) := by omega
     have hw2 : wrap64 (x + (q.length : Int)) = x + (q.length : Int) := by have h1 := HX.out; have h2 := HF.out; exact wrap_id (by omega) (by omega)
     obtain ⟨g, cap, he, hg0, hgl, cells, hcells⟩ := Kd.R_form HO.out (by have h1 := HX.out; rw [lo]; omega)
     have HG0 := Aside0.mk hg0
     obtain ⟨rfl, -, rfl⟩ : Ao = some ⟨g, 0, none⟩ ∧ L = out.length ∧ co = cap := by injection he; exact ⟨by assumption, by assumption, by assumption⟩
     obtain ⟨cO, fO⟩ := Kd.R_celln 0 HO.out (x + (q.length : Int)) hb4 hb3
     have hb3' : (x + (q.length : Int) < (L : Int)) = True := eq_true hb3
     have hb4' : (0 ≤ x + (q.length : Int)) = True := eq_true hb4
     clear hy hcells hgl hg0 he lo
     go_wp2
     have hn := INV.out.fin (by have := HF.out; omega) (by have := HY.out; omega)
     go_roundg ((p.length : Int) - x).toNat
     case measure => have := HK.out; have := HX.out; omega
     case rel => exact ⟨_, _, rfl, ⟨hn⟩, ⟨Kd.R_putn HO.out _ _⟩, ⟨HB.out.setCell HG0.out _⟩⟩
  ·have hxb : decide (x < (p.length : Int)) = false := decide_eq_false hx
   have hx2 : (x < (p.length : Int)) = False := eq_false hx
   have HX := Aside0.mk hx
   clear hx
   replace E := E.dg (Dg.of_R HO.out)
   go_wp2_with (first | ((with_reducible refine gate_stored (t := 77) (by rfl) ?_); refine st_ (fun ws hs_ => ?_); replace E := Env.pt2 hs_ E; clear hs_; have q := E.cls; (repeat obtain ⟨_, _, q⟩ := q); clear q) | ((with_reducible refine gate_stored (t := 84) (by rfl) ?_); refine st_ (fun ws hs_ => ?_); replace E := Env.pt4 hs_ E; clear hs_; have q := E.cls; (repeat obtain ⟨_, _, q⟩ := q); clear q) | (go_at_call 153; refine env_call E (signed_calls E.getD INV.out.2.2.2.1) ?_; clear E; rintro e wc E ⟨br, Ar, nr, cr, rfl, hw_⟩; replace E := E.wh hw_; clear hw_; have q := E.cls; (repeat obtain ⟨_, _, q⟩ := q); clear q))
   refine bodyPost_ret (results_single rfl (.cell _ _ _ (0, 0) _ rfl E.blk Tryz.underlying77 rfl (by kernel_rfl) .nil)) rfl ?_
   refine ⟨E.below, RW.mk (E.getW.eq ?_)⟩
   obtain ⟨-, ⟨k1, k2⟩, -, -, k5, -⟩ := INV.out
   have e1 : x.toNat = p.length := by have := HX.out; omega
   have e2 : val p = z.natAbs := by rw [HP.out, val_dg]
   have e3 : val q = z'.natAbs := by rw [HQ.out, val_dg]
   rw [e1, List.take_length, e2, e3, ← Int.natCast_mul, ← Int.natAbs_mul] at k5
   rw [k5, hb.out, hb'.out]
   by_cases s1 : z < 0 <;> by_cases s2 : z' < 0
   ·have := Int.mul_pos_of_neg_of_neg s1 s2
    rw [decide_eq_true s1, decide_eq_true s2]
    simp [sgnd]
    omega
   ·have := Int.mul_nonneg (show 0 ≤ -z by omega) (show 0 ≤ z' by omega)
    rw [Int.neg_mul] at this
    rw [decide_eq_true s1, decide_eq_false s2]
    simp [sgnd]
    omega
   ·have := Int.mul_nonneg (show 0 ≤ z by omega) (show 0 ≤ -z' by omega)
    rw [Int.mul_neg] at this
    rw [decide_eq_false s1, decide_eq_true s2]
    simp [sgnd]
    omega
   ·have := Int.mul_nonneg (show 0 ≤ z by omega) (show 0 ≤ z' by omega)
    rw [decide_eq_false s1, decide_eq_false s2]
    simp [sgnd]
    omega
end Go.Proofs.YtfmcgammhfdfnaaGreatDoor.PRatio

