/- Go functions as plain Lean functions, each with a proof that the Go code computes just that, and facts on them; conditions: those that each theorem states. -/
import Derived.Test.YticckanjfdcpaaaDoorQFacesMatch1
import Derived.RangeFuncRecord
import Derived.RangeFuncLeaves
import Derived.RangeFuncIn
import Derived.RangeFuncOwn
import Derived.OwnWalkIn
import Derived.TacticsInMore
import Derived.OrdersIn
import Derived.RangeFuncSeq
import Derived.RangeFuncCalls
import Derived.StillTailTactics
import Derived.LoopIn
namespace Go.Proofs.YticckanjfdcpaaaDoor.PSimplex
open Go.RowKit Go.Proofs.YticckanjfdcpaaaDoorW.PrintWords Go.Proofs.YticckanjfdcpaaaDoorW.PrintLast Go.Proofs.YticckanjfdcpaaaDoorW.PrintMore
attribute [local go_sem] max2_int min2_int max_two min_two max_three min_three max_four min_four   -- for this text's walks alone
set_option linter.unusedVariables false
set_option linter.unusedSimpArgs false

/-! ### toruslaw07_is: function 22 -/
def toruslaw07_is.f (k : Nat) (l0 : List Int) (a1 : Int) (l2 : List Int) : Option (Bool) := if a1 = 0 then ((torusref07_Cmp.f k l0 l2).bind fun t139 => (some (t139 == 0))) else (some false)
theorem toruslaw07_is.mono : ∀ a0 a1 a2 k, LeO (toruslaw07_is.f k a0 a1 a2) (toruslaw07_is.f (k + 1) a0 a1 a2) := by
 intro a0 a1 a2 k
 unfold toruslaw07_is.f
 repeat' first
   |(with_reducible exact torusref07_Cmp.mono _ _ _)
   |(with_reducible exact LeO.refl _)
   |(with_reducible exact LeO.none _)
   |(with_reducible refine LeO.ite ?_ ?_)
   |(with_reducible refine LeO.bind ?_ (fun _ => ?_))
set_option maxHeartbeats 8000000 in
set_option maxRecDepth 100000 in
theorem toruslaw07_is.calls (k : Nat) (A0 : Option Addr) (c0 : Nat) (l0 : List Int) (a1 : Int) (A2 : Option Addr) (c2 : Nat) (l2 : List Int) (r : Bool) (w : World) (hr0 : Kd.C (Kd.int .i64) w A0 l0.length l0) (hc0 : l0.length ≤ c0) (hr2 : Kd.C (Kd.int .i64) w A2 l2.length l2) (hc2 : l2.length ≤ c2) (h : toruslaw07_is.f k l0 a1 l2 = some r) :
  Calls Tryd.prog 22 #[.slice A0 l0.length c0, .int .i64 a1, .slice A2 l2.length c2] w fun e w' => e = .returned (.bool r) ∧ Drawn0 w w' := by
 have HR0 := Aside0.mk hr0
 have HC0 := Aside0.mk hc0
 clear hr0 hc0
 have HR2 := Aside0.mk hr2
 have HC2 := Aside0.mk hc2
 clear hr2 hc2
 have H : (if a1 = 0 then ((torusref07_Cmp.f k l0 l2).bind fun t139 => (some (t139 == 0))) else (some false)) = some r := h
 clear h
 by_cases c4 : a1 = 0
 ·rw [if_pos c4] at H
  have c4b0 : (a1 == 0) = true := beq_iff_eq.mpr c4
  have c4b1 : (a1 != 0) = false := bne_eq_false_iff_eq.mpr c4
  clear c4
  replace H := Option.bind_eq_some_iff.mp H
  obtain ⟨t139, A50, H⟩ := H
  have A5 := Aside0.mk A50
  clear A50
  obtain rfl := Option.some.inj H
  go_enter Tryd.func22, Tryd.ntmps22
  go_wp2_with (first | (go_at_call 17; (with_reducible refine (torusref07_Cmp.calls k _ _ l0 _ _ l2 t139 _ ?side1 ?side2 ?side3 ?side4 A5.out).mono ?_); (case side1 => exact cs_ HR0.out); (case side2 => exact HC0.out); (case side3 => exact cs_ HR2.out); (case side4 => exact HC2.out); rintro e w' ⟨rfl, ⟨nd, rfl⟩⟩))
  go_ret
  exact ⟨sd_, dr_⟩
 ·rw [if_neg c4] at H
  have c4b0 : (a1 == 0) = false := beq_eq_false_iff_ne.mpr c4
  have c4b1 : (a1 != 0) = true := bne_iff_ne.mpr c4
  obtain rfl := Option.some.inj H
  go_enter Tryd.func22, Tryd.ntmps22
  go_wp2
  go_ret
  exact ⟨sd_, dr_⟩

end Go.Proofs.YticckanjfdcpaaaDoor.PSimplex
namespace Go.Proofs.YticckanjfdcpaaaDoor.PSimplex
open Go.RowKit Go.Proofs.YticckanjfdcpaaaDoorW.PrintWords Go.Proofs.YticckanjfdcpaaaDoorW.PrintLast Go.Proofs.YticckanjfdcpaaaDoorW.PrintMore
set_option linter.unusedVariables false
set_option linter.unusedSimpArgs false

/-- What a consumer has taken so far, the blocks that it claims, the world. -/
abbrev Cons := List (List Int) → (Nat → Prop) → World → Prop
/-- What the world outside sees is the same. -/
def Out (W W' : World) : Prop := W'.os = W.os ∧ W'.tape = W.tape ∧ W'.output = W.output
theorem Out.refl (W : World) : Out W W := ⟨rfl, rfl, rfl⟩
theorem Out.trans {A B C : World} (h : Out A B) (k : Out B C) : Out A C := ⟨k.1.trans h.1, k.2.1.trans h.2.1, k.2.2.trans h.2.2⟩
theorem Out.of_below {b : Nat} {A B : World} (h : Below b A B) : Out A B := ⟨h.os, h.tape, h.output⟩
theorem Out.alloc (A : World) (o : Obj) : Out A (A.alloc o) := ⟨rfl, rfl, rfl⟩
theorem Out.put (A : World) (l : Nat) (o : Obj) : Out A (A.putObj l o) := ⟨rfl, rfl, rfl⟩
theorem Out.drew (A : World) : Out A A.drew := ⟨rfl, rfl, rfl⟩
theorem Out.set (A : World) (p : Addr) (u : Value) : Out A (A.setCell p u) := ⟨by simp [World.setCell], by simp [World.setCell], by simp [World.setCell]⟩
/-- It speaks of what it claims, and of the blocks below a number. -/
def Abide (base : Nat) (J : Cons) : Prop := ∀ pre C W W', J pre C W → W.heap.size ≤ W'.heap.size → (∀ k, (C k ∨ k < base) → W'.heap[k]? = W.heap[k]?) → Out W W' → J pre C W'
theorem Abide.mono {base base' : Nat} {J : Cons} (h : Abide base J) (hb : base ≤ base') : Abide base' J := fun pre C W W' hj hs hk ho => h pre C W W' hj hs (fun k hk' => hk k (hk'.imp id (fun h => by omega))) ho
/-- It claims blocks that are there. -/
def Lies (J : Cons) : Prop := ∀ pre C W, J pre C W → ∀ k, C k → k < W.heap.size
/-- What is yielded: a row that the consumer does not claim, from a block on. -/
def Elem (M b : Nat) (C : Nat → Prop) (W : World) (v : Value) (x : List Int) : Prop := Kd.R (Kd.int .i64) 3 W b (fun k => ¬ C k) v x ∧ x.length ≤ M
/-- What is claimed later was claimed, or is new, or was yielded. -/
def Within (C : Nat → Prop) (W : World) (v : Value) (C' : Nat → Prop) : Prop := ∀ k, C' k → C k ∨ W.heap.size ≤ k ∨ v.ownBlock = some k
/-- One more is taken. -/
def Took (J : Cons) (pre : List (List Int)) (C : Nat → Prop) (v : Value) (x : List Int) (W W' : World) : Prop :=
  ∃ C', J (pre ++ [x]) C' W' ∧ Within C W v C' ∧ Kept W W' (fun k => C k ∨ v.ownBlock = some k)
/-- Whoever calls yield of loop l is answered true. -/
def Takes (P : Program) (l M b N : Nat) (J : Cons) : Prop :=
  ∀ pre C W v x, J pre C W → pre.length < N → Elem M b C W v x → YieldAt Fence.wide 0 P l #[v] W fun e W' => e = .returned (.bool true) ∧ Took J pre C v x W W'

theorem putObj_kept (W : World) (l : Nat) (o : Obj) : Kept W (W.putObj l o) (fun k => k = l) := by
  refine ⟨by simp [World.putObj], fun i hi hne => World.putObj_heap_other hne⟩
theorem putObj_size (W : World) (l : Nat) (o : Obj) : (W.putObj l o).heap.size = W.heap.size := by simp [World.putObj]

set_option maxHeartbeats 2000000 in
/-- The law. -/
theorem range_all {P : Program} {g : Operand} {p : Tmp} {assign body : Code} {Q : Exit → Act → World → Prop} {a : Act} {w : World} {gf : Nat} {lb : Array Value} (hg : a.eval g = .func (.func gf) #[] lb)
    (eg : ∀ args w, (callFunc gf args).run P w = .ok (.enter gf args) w) (J : Cons) (C0 : Nat → Prop) (M N base : Nat) (xs : List (List Int)) (hbase : base ≤ w.heap.size) (ha : Abide base J) (hs : Lies J) (h0 : J [] C0 w) (a₁ : Value → Act)
    (hassign : ∀ (l : Nat) (v : Value) (W : World) (K : Act → World → Prop), K (a₁ v) W → assign.wpIn (Fence.wide.inRound l) 0 P (Exit.then K (fun _ _ _ => False)) { tmps := a.tmps.setIfInBounds p v, defers := [] } W)
    (hbody : ∀ (l : Nat) pre C W v x, J pre C W → pre.length < N → Elem M (w.heap.size + 2) C W v x → body.wpIn (Fence.wide.inRound l) 0 P (fun e _ W' => e = .normal ∧ Took J pre C v x W W') (a₁ v) W)
    (hcall : ∀ (l : Nat) (J' : Cons) (C : Nat → Prop) (W : World), Abide (w.heap.size + 2) J' → Lies J' → Takes P l M W.heap.size N J' → J' [] C W → Below w.heap.size w W → (∀ k, C k → C0 k ∨ w.heap.size ≤ k) → W.heap.size = w.heap.size + 2 →
      Calls P gf (#[.func (.yield l) #[] #[]] ++ lb) W fun e W' => (∃ v, e = .returned v) ∧ ∃ C', J' xs C' W' ∧ (∀ k, C' k → C k ∨ W.heap.size ≤ k) ∧ Kept W W' C)
    (hdone : ∀ (D : Nat) (C : Nat → Prop) (W : World), J xs C W → w.heap.size ≤ D → (∀ k, C k → C0 k ∨ w.heap.size ≤ k) → Kept w W C0 → W.heap[D]? = some (.deferred (some [])) → ¬ C D → D < W.heap.size → D < w.heap.size + 2 →
      Q .normal { a with defers := { target := .collected D, args := #[] } :: a.defers } W) :
    (Code.rangeFunc g #[p] assign body).wpIn Fence.wide 0 P Q a w := by
  refine wpIn_rangeFunc ?_
  intro fn hfn
  obtain ⟨rec, hrec⟩ : ∃ rec : LoopState → Option Code → Loop, rec = fun st pe => { state := st, pending := pe, fn, tmps := a.tmps, params := #[p], assign, body, defers := w.heap.size } := ⟨_, rfl⟩
  obtain ⟨W1, hW1⟩ : ∃ W1, (w.alloc (.deferred (some []))).alloc (.loop (rec .ready none)) = W1 := ⟨_, rfl⟩
  have hL1 : W1.heap[w.heap.size + 1]? = some (.loop (rec .ready none)) := by
    rw [← hW1]; have := World.alloc_heap_new (w.alloc (.deferred (some []))) (.loop (rec .ready none)); rwa [World.size_alloc] at this
  have hK1 : W1.heap[w.heap.size]? = some (.deferred (some [])) := by
    rw [← hW1]; exact (Below.heap_alloc _ _ _ (by simp)).trans (World.alloc_heap_new w _)
  have hB1 : Below w.heap.size w W1 := by
    rw [← hW1]; exact ((Below.refl _ w).alloc (Nat.le_refl _) _).alloc (by simp) _
  have hsz : W1.heap.size = w.heap.size + 2 := by rw [← hW1]; simp
  refine ⟨w.heap.size + 1, [{ target := .collected w.heap.size, args := #[] }], W1, { target := .fn (.func gf) lb, args := #[.func (.yield (w.heap.size + 1)) #[] #[]] }, W1, gf,
    #[.func (.yield (w.heap.size + 1)) #[] #[]] ++ lb, W1, ?_, ?_, ?_, ?_, ?_, ?_⟩
  · rw [← hW1, hrec]; exact run_enterLoop_outer _ _ _ _ _
  · simp only [resolve, hg]
    simp [go_sem]
  · intro f' hf'; trivial
  · simp [invoke, go_sem, eg]
  · intro h; simp [Fence.wide] at h
  · rw [callsIn_wide]
    have hC0 := hs [] C0 w h0
    -- the consumer, with the loop's two blocks beside its own
    obtain ⟨J', hJ'⟩ : ∃ J' : Cons, J' = fun pre C W => ∃ C1, J pre C1 W ∧ (∀ k, C1 k → C0 k ∨ w.heap.size + 2 ≤ k) ∧ (∀ k, C k ↔ C1 k ∨ k = w.heap.size ∨ k = w.heap.size + 1) ∧
        W.heap[w.heap.size + 1]? = some (.loop (rec .ready none)) ∧ W.heap[w.heap.size]? = some (.deferred (some [])) := ⟨_, rfl⟩
    have hA' : Abide (w.heap.size + 2) J' := by
      intro pre C W W' h hsz' hk hout
      rw [hJ'] at h ⊢
      obtain ⟨C1, hj, hb, hC, hl, hd⟩ := h
      exact ⟨C1, ha pre C1 W W' hj hsz' (fun k h => hk k (h.imp (fun h => (hC k).2 (.inl h)) (fun h => by omega))) hout, hb, hC, (hk _ (.inl ((hC _).2 (.inr (.inr rfl))))).trans hl, (hk _ (.inl ((hC _).2 (.inr (.inl rfl))))).trans hd⟩
    have hS' : Lies J' := by
      intro pre C W h k hk
      rw [hJ'] at h
      obtain ⟨C1, hj, hb, hC, hl, hd⟩ := h
      have h1 := (Array.getElem?_eq_some_iff.1 hl).1
      rcases (hC k).1 hk with h | h | h
      · exact hs pre C1 W hj k h
      · omega
      · omega
    have hT' : Takes P (w.heap.size + 1) M W1.heap.size N J' := by
      intro pre C W v x h hN he
      rw [hJ'] at h
      obtain ⟨C1, hj, hb, hC, hl, hd⟩ := h
      have hlt : w.heap.size + 1 < W.heap.size := (Array.getElem?_eq_some_iff.1 hl).1
      have hy : (Instr.yield (w.heap.size + 1) #[v]).run P W = .ok (.round (w.heap.size + 1) fn (a.tmps.setIfInBounds p v) assign body) W := by
        have := run_yield (P := P) (args := #[v]) hl (by rw [hrec]; rfl)
        rw [hrec] at this
        exact this.trans (by simp)
      have hnl : ∀ k, C1 k → k ≠ w.heap.size + 1 ∧ k ≠ w.heap.size := fun k h => by
        rcases hb k h with h | h
        · have := hC0 k h; omega
        · omega
      obtain ⟨rb, hrb⟩ : ∃ rb : Loop, { rec .ready none with state := .busy } = rb := ⟨_, rfl⟩
      have hbeg : (Instr.beginRound (w.heap.size + 1)).run P W = .ok () (W.putObj (w.heap.size + 1) (.loop rb)) := by
        rw [← hrb]; exact run_beginRound hl (by rw [hrec])
      refine ⟨fn, _, assign, body, hy, roundIn_of_wpIn trivial ?_⟩
      refine hassign (w.heap.size + 1) v W _ ?_
      refine ⟨_, hbeg, ?_⟩
      have hk2 := putObj_kept W (w.heap.size + 1) (.loop rb)
      have hl2 : (W.putObj (w.heap.size + 1) (.loop rb)).heap[w.heap.size + 1]? = some (.loop rb) := World.putObj_heap_same hlt
      have hd2 : (W.putObj (w.heap.size + 1) (.loop rb)).heap[w.heap.size]? = some (.deferred (some [])) := (World.putObj_heap_other (by omega)).trans hd
      have hz2 := putObj_size W (w.heap.size + 1) (.loop rb)
      have hj2 := ha pre C1 W _ hj (Nat.le_of_eq hz2.symm) (fun k h => World.putObj_heap_other (h.elim (fun h => (hnl k h).1) (fun h => by omega))) (Out.put _ _ _)
      have he1 : Elem M (w.heap.size + 2) C1 (W.putObj (w.heap.size + 1) (.loop rb)) v x := by
        have := Kd.R_kept he.1 hk2 (fun k h e => h ((hC k).2 (.inr (.inr e))))
        rw [hsz] at this
        exact ⟨Kd.R_mono this (fun k h h' => h ((hC k).2 (.inl h'))), he.2⟩
      have hown : ∀ k, v.ownBlock = some k → w.heap.size + 2 ≤ k := Kd.R_base he1.1
      refine wpIn_mono (hbody (w.heap.size + 1) pre C1 _ v x hj2 hN he1) ?_
      rintro e a3 W3 ⟨rfl, C3, hj3, hw3, hk3⟩
      have hl3 : W3.heap[w.heap.size + 1]? = some (.loop rb) := (hk3.2 _ (by omega) (fun h => by rcases h with h | h; exact (hnl _ h).1 rfl; have := hown _ h; omega)).trans hl2
      have hd3 : W3.heap[w.heap.size]? = some (.deferred (some [])) := (hk3.2 _ (by omega) (fun h => by rcases h with h | h; exact (hnl _ h).2 rfl; have := hown _ h; omega)).trans hd2
      have hr : (Instr.endRound (w.heap.size + 1) none).run P W3 = .ok (.bool true) (W3.putObj (w.heap.size + 1) (.loop (rec .ready none))) := by
        have := run_endRound (P := P) none hl3
        rw [← hrb, hrec] at this
        rw [hrec]
        exact this
      have hz4 := putObj_size W3 (w.heap.size + 1) (.loop (rec .ready none))
      have hn3 : ∀ k, C3 k → C0 k ∨ w.heap.size + 2 ≤ k := fun k h => by
        rcases hw3 k h with h | h | h
        · exact hb k h
        · omega
        · exact .inr (hown k h)
      have hnl3 : ∀ k, C3 k → k ≠ w.heap.size + 1 := fun k h => by
        rcases hn3 k h with h | h
        · have := hC0 k h; omega
        · omega
      refine ⟨_, _, hr, rfl, fun k => C3 k ∨ k = w.heap.size ∨ k = w.heap.size + 1, ?_, ?_, ?_⟩
      · rw [hJ']
        refine ⟨C3, ha _ C3 W3 _ hj3 (Nat.le_of_eq (putObj_size _ _ _).symm) (fun k h => World.putObj_heap_other (h.elim (fun h => hnl3 k h) (fun h => by omega))) (Out.put _ _ _), hn3, fun k => Iff.rfl, ?_, (World.putObj_heap_other (by omega)).trans hd3⟩
        exact World.putObj_heap_same (Array.getElem?_eq_some_iff.1 hl3).1
      · intro k h
        rcases h with h | h | h
        · rcases hw3 k h with h | h | h
          · exact .inl ((hC k).2 (.inl h))
          · exact .inr (.inl (by omega))
          · exact .inr (.inr h)
        · exact .inl ((hC k).2 (.inr (.inl h)))
        · exact .inl ((hC k).2 (.inr (.inr h)))
      · have hS : ∀ k, k = w.heap.size + 1 → C k ∨ v.ownBlock = some k := fun k e => .inl ((hC k).2 (.inr (.inr e)))
        refine ((hk2.mono hS).then_ hk3 (fun k h => ?_)).then_ (putObj_kept W3 (w.heap.size + 1) _) (fun k h => .inl (hS k h))
        rcases h with h | h
        · exact .inl (.inl ((hC k).2 (.inl h)))
        · exact .inl (.inr h)
    have hI1 : J [] C0 W1 := ha [] C0 w W1 h0 (by omega) (fun k h => hB1.block k (h.elim (fun h => hC0 k h) (fun h => by omega))) (Out.of_below hB1)
    have hstart : J' [] (fun k => C0 k ∨ k = w.heap.size ∨ k = w.heap.size + 1) W1 := by
      rw [hJ']
      exact ⟨C0, hI1, fun k h => .inl h, fun k => Iff.rfl, hL1, hK1⟩
    refine (hcall (w.heap.size + 1) J' _ W1 hA' hS' hT' hstart hB1 (fun k h => by rcases h with h | h | h; exact .inl h; exact .inr (by omega); exact .inr (by omega)) hsz).mono ?_
    rintro e W2 ⟨⟨v, rfl⟩, C2, hj2, hw2, hk2⟩
    rw [hJ'] at hj2
    obtain ⟨C3, hj3, hb3, hC3, hl3, hd3⟩ := hj2
    have hr := run_endLoop (P := P) hl3 (by rw [hrec]; simp)
    have hp : (rec .ready none).pending = none := by rw [hrec]
    rw [hp] at hr
    have hn3 : ∀ k, C3 k → k ≠ w.heap.size + 1 := fun k h => by
      rcases hb3 k h with h | h
      · have := hC0 k h; omega
      · omega
    refine ⟨none, _, hr, ?_⟩
    refine hdone w.heap.size C3 _ (ha _ C3 W2 _ hj3 (Nat.le_of_eq (putObj_size _ _ _).symm) (fun k h => World.putObj_heap_other (h.elim (fun h => hn3 k h) (fun h => by omega))) (Out.put _ _ _)) (Nat.le_refl _) (fun k h => (hb3 k h).imp id (fun h => by omega)) ?_ ((World.putObj_heap_other (by omega)).trans hd3) (fun h => by
      rcases hb3 _ h with h | h
      · have := hC0 _ h; omega
      · omega) (by rw [putObj_size]; exact (Array.getElem?_eq_some_iff.1 hd3).1) (by omega)
    refine ((Kept.of_below hB1 C0).then_ hk2 (fun k h => ?_)).then_ (putObj_kept W2 (w.heap.size + 1) _) (fun k h => .inr (by omega))
    rcases h with h | h | h
    · exact .inl h
    · exact .inr (by omega)
    · exact .inr (by omega)
end Go.Proofs.YticckanjfdcpaaaDoor.PSimplex
namespace Go.Proofs.YticckanjfdcpaaaDoor.PSimplex
open Go.RowKit Go.Proofs.YticckanjfdcpaaaDoorW.PrintWords Go.Proofs.YticckanjfdcpaaaDoorW.PrintLast Go.Proofs.YticckanjfdcpaaaDoorW.PrintMore
set_option linter.unusedVariables false
set_option linter.unusedSimpArgs false

theorem run_append_of {P : Program} {t ty : TypeId} {vs vx : Value} {W : World} {F : Value → World → Prop}
    (h : ∀ (o : Oper) (a : Act) (Q : Exit → Act → World → Prop), o.guard = none → o.op = .call { callee := .builtin .append, args := #[.tmp 0, .tmp 1], argTypes := #[t, t] } → o.type = ty → a.eval (.tmp 0) = vs → a.eval (.tmp 1) = vx →
      (∀ v1 w1, F v1 w1 → wpList P #[] Q [] (a.put o.dst v1) w1) → wpList P #[] Q [o] a W) :
    ∃ v w', (Builtin.append_ #[t, t] ty #[vs, vx]).run P W = .ok v w' ∧ F v w' := by
  have h1 := h { dst := some 2, op := .call { callee := .builtin .append, args := #[.tmp 0, .tmp 1], argTypes := #[t, t] }, type := ty, pos := "", after := #[], guard := none } { tmps := #[vs, vx, undef], defers := [] }
    (fun e a' w' => e = .normal ∧ ∃ v1, a' = ({ tmps := #[vs, vx, v1], defers := [] } : Act) ∧ F v1 w') rfl rfl rfl rfl rfl (fun v1 w1 hf => ⟨rfl, v1, by simp [Act.put], hf⟩)
  unfold wpList at h1
  rw [if_pos (by simp [Region.wanted])] at h1
  rcases h1 with h1 | ⟨_, a, w, h2, _⟩
  · unfold Oper.wp execOp at h1
    simp only [resolve, invoke, builtin, Sem.run_bind, Sem.run_pure, Result.andThen_ok, List.map_toArray, List.map_cons, List.map_nil, Act.eval] at h1
    cases hr : (Builtin.append_ #[t, t] ty #[vs, vx]).run P W with
    | ok v w' =>
      have e0 : (#[vs, vx, undef] : Array Value)[0]! = vs := rfl
      have e1 : (#[vs, vx, undef] : Array Value)[1]! = vx := rfl
      simp [hr, Oper.upon, Act.put, wpList] at h1
      exact ⟨v, w', rfl, h1⟩
    | halt x w' =>
      simp [hr, Oper.upon] at h1
      cases x <;> simp at h1
  · cases h2

/-- append(v, ys...): a row of ints. -/
theorem run_append_rows {w0 W : World} (base : Nat) (v : Value) (xs ys : List Int) (A : Option Addr) (m c : Nat) (ok : Nat → Prop) (HO : Kd.R (Kd.int .i64) 3 W base ok v xs) (HR : Kd.C (Kd.int .i64) W A m ys) (hfresh : ∀ k, W.heap.size ≤ k → ok k)
    (HB : Below base w0 W) (hbase : base ≤ W.heap.size) (hl : (xs.length + m) * 8 ≤ 140737488355328) :
    ∃ v1 w1, (Builtin.append_ #[28, 28] 28 #[v, .slice A m c]).run Tryd.prog W = .ok v1 w1 ∧ (Kd.R (Kd.int .i64) 3 w1 base ok v1 (xs ++ ys) ∧ Below base w0 w1 ∧ W.grownBy w1 v.ownBlock ∧ (v1.ownBlock = v.ownBlock ∨ ∃ b, v1.ownBlock = some b ∧ W.heap.size ≤ b)) :=
  run_append_of fun o a Q hg ho _ h0 h1 h =>
    Kd.R_append_rows (Kd.int .i64) (w0 := w0) base hg (.tmp 0) (.tmp 1) 28 3 (.int .i64 0) 8 ho Tryd.underlying28 info3 rfl (by decide) (by omega) v xs ys A m c ok (fun _ => False) h0 h1 HO HR (fun _ _ h => h) (fun _ h => h.elim) hfresh HB hbase hl
      (fun v1 w1 a1 a2 a3 a4 => h v1 w1 ⟨a1, a2, a3, a4⟩)
/-- append(v, p): a row of rows. -/
theorem run_append_one {w0 W : World} (base : Nat) (v : Value) (xs : List (List Int)) (p : List Int) (cs : List Value) (ok okp : Nat → Prop) (hp : (Kd.slice 3 (Kd.int .i64)).M W base okp p cs) (hokp : ∀ k, okp k → ok k ∧ some k ≠ v.ownBlock) (hfresh : ∀ k, W.heap.size ≤ k → ok k)
    (HO : Kd.S (Kd.slice 3 (Kd.int .i64)) 28 W base (fun k => ok k ∧ ¬ okp k) v xs) (HB : Below base w0 W) (hbase : base ≤ W.heap.size) (hl : (xs.length + 1) * 24 ≤ 140737488355328) :
    ∃ v1 w1, (Builtin.append_ #[56, 56] 56 #[v, .slice (some ⟨W.heap.size, 0, none⟩) 1 1]).run Tryd.prog (W.alloc (.cells cs.toArray 28)) = .ok v1 w1 ∧
      (Kd.S (Kd.slice 3 (Kd.int .i64)) 28 w1 base ok v1 (xs ++ [p]) ∧ Below base w0 w1 ∧ W.grownBy w1 v.ownBlock ∧ (v1.ownBlock = v.ownBlock ∨ ∃ b, v1.ownBlock = some b ∧ W.heap.size ≤ b)) :=
  run_append_of fun o a Q hg ho _ h0 h1 h =>
    Kd.S_append (Kd.slice 3 (Kd.int .i64)) (w0 := w0) base hg (.tmp 0) (.tmp 1) 56 28 (.slice none 0 0) 24 ho Tryd.underlying56 info28 rfl (by decide) (by omega) v xs p cs ok okp h0 h1 hp hokp hfresh HO HB hbase hl
      (fun v1 w1 a1 a2 a3 a4 => h v1 w1 ⟨a1, a2, a3, a4⟩)

/-- An append whose run is known, in a fenced walk. -/
theorem wpListIn_append_run {F : Fence} {n : Nat} {P : Program} {w : World} {ops : Array Oper} {rest : List Oper} {o : Oper} {a : Act} {Q : Exit → Act → World → Prop} (hgd : o.guard = none) (s x : Operand) (t : TypeId)
    (ho : o.op = .call { callee := .builtin .append, args := #[s, x], argTypes := #[t, t] }) (vs vx : Value) (hs : a.eval s = vs) (hx : a.eval x = vx)
    (v' : Value) (w' : World) (hr : (Builtin.append_ #[t, t] o.type #[vs, vx]).run P w = .ok v' w') (h : wpListIn F n P ops Q rest (a.put o.dst v') w') : wpListIn F n P ops Q (o :: rest) a w := by
  refine wpListIn_plain hgd fun K hK => ?_
  unfold Oper.wpIn
  refine ⟨by simp [Oper.about, ho, resolve, Target.leads, Sem.run_pure], ?_⟩
  rw [Oper.semAt_plain F _ _ (by rw [ho]; intro c hc'; cases hc')]
  unfold execOp
  simp only [ho, resolve, invoke, builtin, Sem.run_bind, Sem.run_pure, Result.andThen_ok, List.map_toArray, List.map_cons, List.map_nil, hs, hx, hr]
  exact hK _ _ h
end Go.Proofs.YticckanjfdcpaaaDoor.PSimplex
namespace Go.Proofs.YticckanjfdcpaaaDoor.PSimplex
open Go.RowKit Go.Proofs.YticckanjfdcpaaaDoorW.PrintWords
set_option linter.unusedVariables false

theorem count_set : ∀ (l : List Bool) (i : Nat), l[i]? = some false → (l.set i true).count false + 1 = l.count false
  | [], i, h => by simp at h
  | b :: l, 0, h => by
    simp at h
    subst h
    simp
  | b :: l, i + 1, h => by
    have := count_set l i (by simpa using h)
    simp only [List.set_cons_succ, List.count_cons]
    omega
theorem count_zero : ∀ (l : List Bool) (i : Nat), l.count false = 0 → l[i]?.getD true = true
  | [], i, h => by simp
  | b :: l, 0, h => by
    cases b
    · simp at h
    · simp
  | b :: l, i + 1, h => by
    simp only [List.getElem?_cons_succ]
    exact count_zero l i (by simp only [List.count_cons] at h; omega)
theorem listed_getD (L : Array Bool) (i : Nat) : L.getD i true = L.toList[i]?.getD true := by
  simp [Array.getD_eq_getD_getElem?]
section
variable {F : Fence} {n : Nat} {P : Program} {ops : Array Oper} {Q : Exit → Act → World → Prop} {md : Region.Mode}
theorem wpAnyIn_inv (I : Array Bool → Act → World → Prop)
    (hstep : ∀ L a w i, I L a w → i ∈ Region.ready md ops L → wpOpIn F n P ops Q i (fun a' w' => I (L.setIfInBounds i true) a' w') a w)
    (hend : ∀ L a w, I L a w → Region.ready md ops L = [] → Q .normal a w) :
    ∀ (fuel : Nat) (L : Array Bool) (a : Act) (w : World), I L a w → L.toList.count false ≤ fuel → wpAnyIn F n P md ops Q fuel L a w := by
  intro fuel
  induction fuel with
  | zero =>
    intro L a w h hc
    have hr : Region.ready md ops L = [] := by
      unfold Region.ready
      rw [List.filter_eq_nil_iff]
      intro i hi
      have h1 : L[i]?.getD true = true := by simpa using count_zero L.toList i (by omega)
      simp [h1]
    exact ⟨hr, hend L a w h hr⟩
  | succ fuel ih =>
    intro L a w h hc
    refine ⟨fun hr => hend L a w h hr, fun i hi => ?_⟩
    refine wpOpIn_mono (fun a' w' h' => ih _ a' w' h' ?_) (hstep L a w i h hi)
    have hf : L.toList[i]? = some false := by
      unfold Region.ready at hi
      rw [List.mem_filter] at hi
      have h1 := hi.2
      simp only [Bool.and_eq_true, Bool.not_eq_true', listed_getD] at h1
      have h2 := h1.1
      cases e : L.toList[i]? with
      | none => rw [e] at h2; simp at h2
      | some b => rw [e] at h2; simp at h2; rw [h2]
    have := count_set L.toList i hf
    rw [Array.toList_setIfInBounds]
    omega
theorem opIn_value {l i : Nat} {o : Oper} {K : Act → World → Prop} {a : Act} {w w' : World} {v : Value} (ho : ops[i]? = some o) (hg : o.guard = none) (hd : ∀ c, o.op ≠ .defer c)
    (hr : (execOp a.eval o).run P w = .ok (.value v) w') (h : K (a.put o.dst v) w') : wpOpIn (Fence.wide.inRound l) n P ops Q i K a w := by
  unfold wpOpIn
  rw [ho]
  simp only [Region.wanted, hg, if_true]
  refine ⟨fun _ _ => trivial, ?_⟩
  rw [Oper.semAt_plain _ _ _ hd, hr]
  exact h
theorem opIn_round {l i : Nat} {o : Oper} {K : Act → World → Prop} {a : Act} {w w' : World} {l0 : Nat} {f : FuncId} {tmps : Array Value} {assign body : Code} (ho : ops[i]? = some o) (hg : o.guard = none) (hd : ∀ c, o.op ≠ .defer c)
    (hr : (execOp a.eval o).run P w = .ok (.round l0 f tmps assign body) w') (R : Value → World → Prop) (h : RoundIn Fence.wide (n - 1) P l0 f tmps assign body w' (fun e w'' => ∃ v, e = .returned v ∧ R v w''))
    (hK : ∀ v w'', R v w'' → K (a.put o.dst v) w'') : wpOpIn (Fence.wide.inRound l) n P ops Q i K a w := by
  unfold wpOpIn
  rw [ho]
  simp only [Region.wanted, hg, if_true]
  refine ⟨fun _ _ => trivial, ?_⟩
  rw [Oper.semAt_plain _ _ _ hd, hr]
  refine ⟨fun h' => (by cases h'), ?_⟩
  refine RoundIn.mono (F := Fence.wide.inRound l) h ?_
  rintro e w'' ⟨v, rfl, hv⟩
  exact hK v w'' hv
theorem exec_append {ρ : Operand → Value} {o : Oper} {w w' : World} {v vs vx : Value} {s x : Operand} {t : TypeId} (ho : o.op = .call { callee := .builtin .append, args := #[s, x], argTypes := #[t, t] }) (hs : ρ s = vs) (hx : ρ x = vx)
    (hr : (Builtin.append_ #[t, t] o.type #[vs, vx]).run P w = .ok v w') : (execOp ρ o).run P w = .ok (.value v) w' := by
  unfold execOp
  simp only [ho, resolve, invoke, builtin, Sem.run_bind, Sem.run_pure, Result.andThen_ok, List.map_toArray, List.map_cons, List.map_nil, hs, hx, hr]
end
end Go.Proofs.YticckanjfdcpaaaDoor.PSimplex
namespace Go.Proofs.YticckanjfdcpaaaDoor.PSimplex
open Go.RowKit Go.Proofs.YticckanjfdcpaaaDoorW.PrintWords Go.Proofs.YticckanjfdcpaaaDoorW.PrintLast Go.Proofs.YticckanjfdcpaaaDoorW.PrintMore
attribute [local go_sem] Oper.semAt_some
set_option linter.unusedVariables false
set_option linter.unusedSimpArgs false

/-- An iterator's contract: what it hands on. -/
def Feeds (gf : Nat) (lb : Array Value) (w : World) (C0 : Nat → Prop) (M N : Nat) (xs : List (List Int)) : Prop :=
  ∀ (l : Nat) (J' : Cons) (C : Nat → Prop) (W : World), Abide W.heap.size J' → Lies J' → Takes Tryd.prog l M W.heap.size N J' → J' [] C W → Below w.heap.size w W → (∀ k, C k → C0 k ∨ w.heap.size ≤ k) →
    Calls Tryd.prog gf (#[.func (.yield l) #[] #[]] ++ lb) W fun e W' => (∃ v, e = .returned v) ∧ ∃ C', J' xs C' W' ∧ (∀ k, C' k → C k ∨ W.heap.size ≤ k) ∧ Kept W W' C

/-- AppendSeq's own: the boxed slice. -/
def JSeq (w0 : World) (bx b0 : Nat) (old : List (List Int)) : Cons := fun pre C W => Out w0 W ∧
  ∃ v, W.heap[bx]? = some (.cells #[v] 56 (0, 0)) ∧ Kd.S (Kd.slice 3 (Kd.int .i64)) 28 W b0 (fun k => C k ∧ k ≠ bx) v (old ++ pre) ∧ C bx ∧ b0 ≤ W.heap.size ∧ (∀ k, C k → k < W.heap.size)
theorem JSeq.abide (w0 : World) (bx b0 : Nat) (old : List (List Int)) : Abide 0 (JSeq w0 bx b0 old) := by
  rintro pre C W W' ⟨hO, v, hx, hS, hc, hb, hl⟩ hsz hk ho
  exact ⟨hO.trans ho, v, (hk bx (.inl hc)).trans hx, Kd.S_step hS (fun k h _ => hk k (.inl h.1)), hc, by omega, fun k h => Nat.lt_of_lt_of_le (hl k h) hsz⟩
theorem JSeq.lies (w0 : World) (bx b0 : Nat) (old : List (List Int)) : Lies (JSeq w0 bx b0 old) := by
  rintro pre C W ⟨hO, v, hx, hS, hc, hb, hl⟩ k h
  exact hl k h

set_option maxHeartbeats 4000000 in
set_option maxRecDepth 100000 in
theorem appendSeq_calls (gf : Nat) (lb : Array Value) (eg : ∀ args w, (callFunc gf args).run Tryd.prog w = .ok (.enter gf args) w) (v0 : Value) (old xs : List (List Int)) (b0 M N : Nat) (ok0 : Nat → Prop) (w : World)
    (HO : Kd.S (Kd.slice 3 (Kd.int .i64)) 28 w b0 ok0 v0 old) (hok : ∀ k, ok0 k → b0 ≤ k ∧ k < w.heap.size) (hb0 : b0 ≤ w.heap.size) (hN : old.length + N < 5000000000000)
    (hseq : Feeds gf lb w ok0 M N xs) :
    Calls Tryd.prog 53 #[v0, .func (.func gf) #[] lb] w fun e w' => ∃ v, e = .returned v ∧ Kd.S (Kd.slice 3 (Kd.int .i64)) 28 w' b0 (fun k => ok0 k ∨ w.heap.size ≤ k) v (old ++ xs) ∧ Kept w w' ok0 ∧ Out w w' := by
  obtain ⟨A0, c0, rfl⟩ := Kd.S_slice HO
  have HSEQ := Aside0.mk hseq
  have HO' := Aside0.mk HO
  have HOK := Aside0.mk hok
  clear hseq HO hok
  rw [← callsIn_wide (n := 0)]
  refine callsIn_of_wp_marks Tryd.func53 rfl trivial ?_ rfl
  simp only [Tryd.ntmps53, List.size_toArray, List.length_cons, List.length_nil, Nat.reduceAdd, Nat.reduceSub, Array.replicate_succ, Array.replicate_zero, List.push_toArray, List.append_toArray, List.nil_append, List.cons_append]
  gi_wp2
  have hJ0 : JSeq w w.heap.size b0 old [] (fun k => ok0 k ∨ k = w.heap.size) (w.alloc (.cells #[.slice A0 old.length c0] 56)) := by
    refine ⟨Out.alloc _ _, .slice A0 old.length c0, blk_new _ _, ?_, .inr rfl, by simp; omega, ?_⟩
    · rw [List.append_nil]
      refine Kd.S_mono (Kd.S_alloc (Kd.S_mono (ok' := fun k => ok0 k) HO'.out (fun k h => h)) _) (fun k h => ⟨.inl h, ?_⟩)
      have := HOK.out k h
      omega
    · intro k h
      rcases h with h | h
      · have := HOK.out k h; simp; omega
      · simp; omega
  refine range_all (gf := gf) (lb := lb) rfl eg (JSeq w w.heap.size b0 old) (fun k => ok0 k ∨ k = w.heap.size) M N 0 xs (Nat.zero_le _) (JSeq.abide _ _ _ _) (JSeq.lies _ _ _ _) hJ0
    (fun v => { tmps := #[.slice A0 old.length c0, .func (.func gf) #[] lb, .pointer (some ⟨w.heap.size, 0, none⟩), undef, .slice none 0 0, v, .func (.func gf) #[] lb, v, undef, undef, undef, undef, undef], defers := [] })
    ?assign ?body ?call ?done
  case assign =>
    intro l v W K hK
    gi_wp2
    exact hK
  case body =>
    rintro l pre C W v x ⟨hO, u, hx, hS, hc, hb, hl⟩ hN' he
    have hbx : w.heap.size < W.heap.size := hl _ hc
    replace he := he.1
    obtain ⟨Av, cv, rfl⟩ := Kd.R_slice he
    obtain ⟨qq, hqq⟩ : ∃ qq, old ++ pre = qq := ⟨_, rfl⟩
    have hql : qq.length < 5000000000000 := by rw [← hqq, List.length_append]; omega
    rw [hqq] at hS
    have HQQ := Aside0.mk hqq
    clear hqq
    obtain ⟨Au, cu, rfl⟩ := Kd.S_slice hS
    have hvown : ∀ k, (.slice Av x.length cv : Value).ownBlock = some k → ¬ C k := fun k hk => he.1 k hk
    have huown : ∀ k, (.slice Au qq.length cu : Value).ownBlock = some k → C k ∧ k ≠ w.heap.size := fun k hk => (Kd.S_R hS).1 k hk
    obtain ⟨v1, w1, hrun, hS1, hB1, hg1, hor⟩ := run_append_one (w0 := W) b0 (.slice Au qq.length cu) qq x [.slice Av x.length cv] (fun k => (C k ∧ k ≠ w.heap.size) ∨ W.heap.size ≤ k ∨ (.slice Av x.length cv : Value).ownBlock = some k) (fun k => (.slice Av x.length cv : Value).ownBlock = some k)
      (Kd.M_row (Kd.R_lower (Kd.R_mono (Kd.R_tight rfl he) (fun k h => h.symm)) (by simp; omega))) (fun k h => ⟨.inr (.inr h), fun e => hvown k h (huown k e.symm).1⟩) (fun k h => .inr (.inl h))
      (Kd.S_mono hS (fun k h => ⟨.inl h, fun e => hvown k e h.1⟩)) (Below.refl _ _) hb (by omega)
    obtain ⟨q1, hq1⟩ : ∃ q1, qq ++ [x] = q1 := ⟨_, rfl⟩
    rw [hq1] at hS1
    have HQ1 := Aside0.mk hq1
    clear hq1
    obtain ⟨A1, c1, rfl⟩ := Kd.S_slice hS1
    have hx1 : w1.heap[w.heap.size]? = some (.cells #[.slice Au qq.length cu] 56 (0, 0)) := blk_grown hx hg1 (fun e => (huown _ e.symm).2 rfl)
    have cS := blk_cell hx 0
    have cS1 := blk_cell hx1 0
    have fS1 := blk_frozen hx1 0
    have HRUN := Aside0.mk hrun
    clear hrun
    gi_wp2_with (first | (gi_at_builtin; refine wpListIn_append_run rfl (.tmp 8) (.tmp 10) 56 rfl _ _ rfl rfl _ _ HRUN.out ?_))
    have hne : ∀ k, ((C k ∧ k ≠ w.heap.size) ∨ W.heap.size ≤ k ∨ (.slice Av x.length cv : Value).ownBlock = some k) → k ≠ w.heap.size := fun k h e => by
      rcases h with h | h | h
      · exact h.2 e
      · omega
      · exact hvown k h (e ▸ hc)
    have hsz1 : W.heap.size ≤ w1.heap.size := hg1.size
    refine ⟨fun k => (C k ∨ W.heap.size ≤ k ∨ (.slice Av x.length cv : Value).ownBlock = some k) ∧ k < w1.heap.size, ⟨(hO.trans (Out.of_below hB1)).trans (Out.set _ _ _), .slice A1 q1.length c1, ?_, ?_, ?_, ?_, ?_⟩, ?_, ?_⟩
    · exact blk_set hx1 0 _
    · rw [← List.append_assoc, HQQ.out, HQ1.out]
      refine Kd.S_mono (Kd.S_bound (Kd.S_far hS1 hne _)) (fun k h => ⟨⟨?_, ?_⟩, hne k h.1⟩)
      · rcases h.1 with h | h | h
        · exact .inl h.1
        · exact .inr (.inl h)
        · exact .inr (.inr h)
      · have := h.2.2.1
        simpa using this
    · exact ⟨.inl hc, by omega⟩
    · simp; omega
    · intro k h
      simpa using h.2
    · intro k h
      rcases h.1 with h | h | h
      · exact .inl h
      · exact .inr (.inl h)
      · exact .inr (.inr h)
    · refine Kept.setCell ⟨hg1.size, fun i hi hn => hg1.block i hi (fun e => hn (.inl (huown i e.symm).1))⟩ (.inl (.inl hc)) _
  case call =>
    intro l J' C W h1 h2 h3 h4 h5 h6 h7
    refine (HSEQ.out l J' C W (h7 ▸ h1) h2 h3 h4 (((Below.refl w.heap.size w).alloc (Nat.le_refl _) _).trans (h5.mono (by simp))) (fun k h => ?_))
    rcases h6 k h with (h | h) | h
    · exact .inl h
    · exact .inr (by omega)
    · exact .inr (by simp at h; omega)
  case done =>
    rintro D C W ⟨hO, u, hx, hS, hc, hb, hl⟩ hD hC hK hd _ _ _
    obtain ⟨qq, hqq⟩ : ∃ qq, old ++ xs = qq := ⟨_, rfl⟩
    rw [hqq] at hS
    have HQQ := Aside0.mk hqq
    clear hqq
    obtain ⟨Au, cu, rfl⟩ := Kd.S_slice hS
    have cS := blk_cell hx 0
    gi_wp2
    refine ⟨by simp, .inl ⟨_, _, rfl, run_takeDeferred hd, ?_⟩⟩
    refine ⟨_, results_tmp rfl _ _ _, _, rfl, ?_, ?_, hO.trans (Out.put _ _ _)⟩
    · rw [HQQ.out]
      refine Kd.S_mono (Kd.S_step (Kd.S_bound hS) (fun k h _ => World.putObj_heap_other (fun e => ?_))) (fun k h => ?_)
      · obtain ⟨q, _, cells, hcl⟩ := h.2.2.2
        rw [e, hd] at hcl
        cases hcl
      · rcases hC k h.1.1 with (h' | h') | h'
        · exact .inl h'
        · exact .inr (by omega)
        · exact .inr (by simp at h'; omega)
    · have h1 : Kept w (w.alloc (.cells #[.slice A0 old.length c0] 56)) ok0 := (Kept.refl w ok0).alloc _
      refine (h1.then_ hK (fun k h => ?_)).then_ (putObj_kept W D _) (fun k h => .inr (by simp at hD; omega))
      rcases h with h | h
      · exact .inl h
      · exact .inr (by omega)
end Go.Proofs.YticckanjfdcpaaaDoor.PSimplex
namespace Go.Proofs.YticckanjfdcpaaaDoor.PSimplex
open Go.RowKit Go.Proofs.YticckanjfdcpaaaDoorW.PrintWords Go.Proofs.YticckanjfdcpaaaDoorW.PrintLast Go.Proofs.YticckanjfdcpaaaDoorW.PrintMore
attribute [local go_sem] Oper.semAt_some
set_option linter.unusedVariables false
set_option linter.unusedSimpArgs false

/-- The lists of n elements of a list, in the list's order. -/
def combs : Nat → List Int → List (List Int)
  | 0, _ => [[]]
  | _ + 1, [] => []
  | n + 1, x :: xs => (combs n xs).map (x :: ·) ++ combs (n + 1) xs
theorem combs_short : ∀ (n : Nat) (xs : List Int), xs.length < n → combs n xs = []
  | 0, _, h => by omega
  | _ + 1, [], _ => rfl
  | n + 1, x :: xs, h => by
    simp only [List.length_cons] at h
    rw [combs, combs_short n xs (by omega), combs_short (n + 1) xs (by omega)]
    rfl
/-- The iterator's value: two boxes. -/
theorem faces_val (A0 : Option Addr) (m c0 : Nat) (n : Int) (w : World) :
    Calls Tryd.prog 54 #[.slice A0 m c0, .int .i64 n] w fun e w' => e = .returned (.func (.func 65) #[] #[.pointer (some ⟨w.heap.size + 1, 0, none⟩), .pointer (some ⟨w.heap.size, 0, none⟩)]) ∧
      w' = (w.alloc (.cells #[.slice A0 m c0] 28)).alloc (.cells #[.int .i64 n] 3) := by
  have hmf : ∀ (fn : Fn) (first cap : Array Value) (w : World), (Instr.makeFunc fn first cap).run Tryd.prog w = .ok (.func fn first cap) w := fun _ _ _ _ => rfl
  go_enter Tryd.func54, Tryd.ntmps54
  go_wp2
  go_ret
  exact ⟨rfl, rfl⟩
/-- A row of ints that is only read. -/
def RowAt (w : World) (A : Option Addr) (xs : List Int) : Prop := ∀ i : Nat, i < xs.length → ∃ ad, A = some ad ∧ w.cell? (ad.add i) = some (.int .i64 (xs.getD i 0))
theorem block_add (ad : Addr) (i : Nat) : (ad.add i).block = ad.block := by unfold Addr.add; split <;> rfl
theorem RowAt.kept {w W : World} {A : Option Addr} {xs : List Int} {S : Nat → Prop} (h : RowAt w A xs) (hk : Kept w W S) (hn : ∀ ad, A = some ad → ¬ S ad.block) : RowAt W A xs := fun i hi => by
  obtain ⟨ad, e, hc⟩ := h i hi
  exact ⟨ad, e, Go.Proofs.YticckanjfdcpaaaDoorW.PrintWords.cell_kept hc hk (by rw [block_add]; exact hn ad e)⟩
theorem RowAt.drop {w : World} {A : Option Addr} {xs : List Int} (h : RowAt w A xs) (c j : Nat) (hc : xs.length ≤ c) : RowAt w (if c = j then A else A.map (·.add j)) (xs.drop j) := fun i hi => by
  rw [List.length_drop] at hi
  obtain ⟨ad, e, hcell⟩ := h (j + i) (by omega)
  subst e
  rw [if_neg (by omega)]
  exact ⟨ad.add j, rfl, by rw [add_add, hcell]; simp⟩

/-- What the iterator at n, s does for whoever takes what it yields. -/
def FeedAt (n : Nat) (s : List Int) : Prop :=
  ∀ (l M b base N : Nat) (J : Cons) (pre : List (List Int)) (C : Nat → Prop) (W : World) (nb sb : Nat) (A0 : Option Addr) (c0 : Nat), Abide base J → base ≤ W.heap.size → Lies J → Takes Tryd.prog l M b N J → n ≤ M → b ≤ W.heap.size → J pre C W →
    W.heap[nb]? = some (.cells #[.int .i64 (n : Int)] 3 (0, 0)) → W.heap[sb]? = some (.cells #[.slice A0 s.length c0] 28 (0, 0)) → ¬ C nb → ¬ C sb → RowAt W A0 s → (∀ ad, A0 = some ad → ¬ C ad.block) →
    s.length ≤ c0 → n ≤ 1000 → s.length ≤ 1000 → pre.length + (combs n s).length ≤ N →
    Calls Tryd.prog 65 #[.func (.yield l) #[] #[], .pointer (some ⟨nb, 0, none⟩), .pointer (some ⟨sb, 0, none⟩)] W fun e W' => (∃ v, e = .returned v) ∧ ∃ C', J (pre ++ combs n s) C' W' ∧ (∀ k, C' k → C k ∨ W.heap.size ≤ k) ∧ Kept W W' C

set_option maxHeartbeats 2000000 in
set_option maxRecDepth 100000 in
theorem feed_zero (s : List Int) : FeedAt 0 s := by
  intro l M b base N J pre C W nb sb A0 c0 hA hbase hL hT hM hb hJ hnb hsb cnb csb hrow hcl hl hn hs hN
  have hlt : nb < W.heap.size := blk_lt hnb
  have hJ1 : J pre C (W.alloc (.cells #[.func (.yield l) #[] #[]] 93)) := hA pre C W _ hJ (by simp) (fun k h => (Below.heap_alloc W _ k (h.elim (fun h => hL _ _ _ hJ k h) (fun h => by omega)))) (Out.alloc _ _)
  have hE : Elem M b C (W.alloc (.cells #[.func (.yield l) #[] #[]] 93)) (.slice none 0 0) [] := ⟨Kd.R_nil _ _ _ _ _, by simp⟩
  obtain ⟨fn, tmps, assign, body, hy, hR⟩ := hT pre C _ (.slice none 0 0) [] hJ1 (by simp [combs] at hN; omega) hE
  have cnb1 : (W.alloc (.cells #[.func (.yield l) #[] #[]] 93)).cell? ⟨nb, 0, none⟩ = some (.int .i64 0) := by
    have := blk_cell (blk_grown hnb (World.grownBy_alloc W (.cells #[.func (.yield l) #[] #[]] 93) none) (by simp)) 0
    simpa using this
  have HA := Aside0.mk hA
  have HT := Aside0.mk hT
  have HR := Aside0.mk hR
  have HL := Aside0.mk hL
  clear hA hT hR hL hnb hsb hrow hcl hE
  rw [← callsIn_wide (n := 0)]
  refine callsIn_of_wp Tryd.func65 rfl trivial ?_ rfl
  simp only [Tryd.ntmps65, List.size_toArray, List.length_cons, List.length_nil, Nat.reduceAdd, Nat.reduceSub, Array.replicate_succ, Array.replicate_zero, List.push_toArray, List.append_toArray, List.nil_append, List.cons_append]
  gi_wp2_with (first
    | (refine ⟨rfl, ?_⟩; refine RoundIn.mono HR.out ?_; rintro e W2 ⟨rfl, C', hj, hw, hk⟩))
  first | go_end0 | ((try simp only [Exit.inBlock, Exit.then]); refine bodyPost_ret (results_none rfl _ _ _) rfl ?_)
  refine ⟨⟨_, rfl⟩, C', by rw [show combs 0 s = [[]] by simp [combs]]; exact hj, fun k h => ?_, ?_⟩
  · rcases hw k h with h | h | h
    · exact .inl h
    · exact .inr (by simp at h; omega)
    · simp [Value.ownBlock] at h
  · refine ((Kept.refl W C).alloc _).then_ hk (fun k h => ?_)
    rcases h with h | h
    · exact .inl h
    · simp [Value.ownBlock] at h

/-- What range loops have left behind: marks whose blocks nobody claims. -/
def Marks (base : Nat) (C : Nat → Prop) (W : World) : List Deferred → Prop
  | [] => True
  | d :: ds => ∃ D, d = { target := .collected D, args := #[] } ∧ base ≤ D ∧ D < W.heap.size ∧ W.heap[D]? = some (.deferred (some [])) ∧ ¬ C D ∧ (∀ D', { target := .collected D', args := #[] } ∈ ds → D' < D) ∧ Marks base C W ds
theorem Marks.low {base : Nat} {C : Nat → Prop} {W : World} : ∀ {ds : List Deferred}, Marks base C W ds → ∀ D', ({ target := .collected D', args := #[] } : Deferred) ∈ ds → base ≤ D' ∧ D' < W.heap.size ∧ ¬ C D'
  | [], _, D', h => by cases h
  | d :: ds, ⟨D, he, h1, h2, h3, h4, h5, h6⟩, D', h => by
    rcases List.mem_cons.1 h with h | h
    · rw [he] at h
      cases h
      exact ⟨h1, h2, h4⟩
    · exact Marks.low h6 D' h
theorem Marks.step {base : Nat} {C C' : Nat → Prop} {W W' : World} : ∀ {ds : List Deferred}, Marks base C W ds → W.heap.size ≤ W'.heap.size → (∀ D', ({ target := .collected D', args := #[] } : Deferred) ∈ ds → W'.heap[D']? = W.heap[D']? ∧ ¬ C' D') → Marks base C' W' ds
  | [], _, _, _ => trivial
  | d :: ds, ⟨D, he, h1, h2, h3, h4, h5, h6⟩, hs, h => by
    have hd := h D (by rw [he]; exact List.mem_cons_self)
    exact ⟨D, he, h1, by omega, hd.1.trans h3, hd.2, h5, Marks.step h6 hs (fun D' hm => h D' (List.mem_cons_of_mem _ hm))⟩
/-- A function that leaves with such marks: they are taken over. -/
theorem leaves_marks {P : Program} {fn : Func} {tmps : Array Value} {R : Ending → World → Prop} {base : Nat} {C : Nat → Prop} (hr : ∀ w, (results fn tmps).run P w = .ok (.tuple #[]) w) : ∀ (ds : List Deferred) (u : FrameMode) (W : World), Marks base C W ds → u = .returning →
    (∀ W', W'.heap.size = W.heap.size → (∀ k, (k < base ∨ C k) → W'.heap[k]? = W.heap[k]?) → Out W W' → R (.returned (.tuple #[])) W') → LeavesInM Fence.wide 0 P fn tmps R ds u W
  | [], u, W, _, hu, h => by
    subst hu
    exact ⟨_, hr W, h W rfl (fun _ _ => rfl) (Out.refl _)⟩
  | d :: ds, u, W, hm, hu, h => by
    obtain ⟨D, he, h1, h2, h3, h4, h5, h6⟩ := hm
    subst hu
    refine ⟨by simp, .inl ⟨D, _, by rw [he], run_takeDeferred h3, ?_⟩⟩
    refine leaves_marks hr ds _ _ (Marks.step h6 (by simp [World.putObj]) (fun D' hm => ⟨World.putObj_heap_other (by have := h5 D' hm; omega), (Marks.low h6 D' hm).2.2⟩)) rfl ?_
    intro W' hs hk ho
    refine h W' (by rw [hs]; simp [World.putObj]) (fun k hk' => (hk k hk').trans (World.putObj_heap_other ?_)) ((Out.put _ _ _).trans ho)
    rintro rfl
    rcases hk' with h | h
    · omega
    · exact h4 h
end Go.Proofs.YticckanjfdcpaaaDoor.PSimplex
namespace Go.Proofs.YticckanjfdcpaaaDoor.PSimplex
open Go.RowKit Go.Proofs.YticckanjfdcpaaaDoorW.PrintWords Go.Proofs.YticckanjfdcpaaaDoorW.PrintLast Go.Proofs.YticckanjfdcpaaaDoorW.PrintMore
attribute [local go_sem] Oper.semAt_some
set_option linter.unusedVariables false
set_option linter.unusedSimpArgs false

/-- The operations of a round. -/
@[reducible] def ops8 : Array Oper := #[
  { dst := some 26, op := Op.load 93 (.tmp 3), type := 93, pos := "simplex.go:100", after := #[], guard := none },
  { dst := some 27, op := Op.load 28 (.tmp 2), type := 28, pos := "simplex.go:100", after := #[], guard := none },
  { dst := some 28, op := Op.load 3 (.tmp 4), type := 3, pos := "simplex.go:100", after := #[], guard := none },
  { dst := some 29, op := Op.indexAddr 28 (.tmp 27) (.tmp 28), type := 0, pos := "simplex.go:100", after := #[{ on := 1, ground := .data }, { on := 2, ground := .data }], guard := none },
  { dst := some 30, op := Op.load 3 (.tmp 29), type := 3, pos := "simplex.go:100", after := #[{ on := 3, ground := .data }], guard := none },
  { dst := some 31, op := Op.buildSlice 28 1 #[(0, .tmp 30)], type := 28, pos := "simplex.go:100", after := #[{ on := 4, ground := .data }], guard := none },
  { dst := some 32, op := Op.move (.tmp 5), type := 28, pos := "simplex.go:100", after := #[], guard := none },
  { dst := some 33, op := Op.call { callee := .builtin .append, args := #[.tmp 31, .tmp 32], argTypes := #[28, 28] }, type := 28, pos := "simplex.go:100", after := #[{ on := 5, ground := .data }, { on := 6, ground := .data }], guard := none },
  { dst := some 34, op := Op.call { callee := .value (.tmp 26), args := #[.tmp 33], argTypes := #[28] }, type := 4, pos := "simplex.go:100", after := #[{ on := 0, ground := .data }, { on := 7, ground := .data }, { on := 7, ground := .chain }], guard := none },
  { dst := some 35, op := Op.unOp .not 4 (.tmp 34), type := 4, pos := "simplex.go:100", after := #[{ on := 8, ground := .data }], guard := none }]

def selv (b : Bool) (v u : Value) : Value := match b with | true => v | false => u
theorem ready8 : ∀ b0 b1 b2 b3 b4 b5 b6 b7 b8 b9 : Bool, ∀ i ∈ Region.ready .any ops8 #[b0, b1, b2, b3, b4, b5, b6, b7, b8, b9], (i = 0 ∧ b0 = false) ∨ (i = 1 ∧ b1 = false) ∨ (i = 2 ∧ b2 = false) ∨ (i = 3 ∧ b3 = false ∧ b1 = true ∧ b2 = true) ∨ (i = 4 ∧ b4 = false ∧ b3 = true) ∨ (i = 5 ∧ b5 = false ∧ b4 = true) ∨ (i = 6 ∧ b6 = false) ∨ (i = 7 ∧ b7 = false ∧ b5 = true ∧ b6 = true) ∨ (i = 8 ∧ b8 = false ∧ b0 = true ∧ b7 = true) ∨ (i = 9 ∧ b9 = false ∧ b8 = true) := by
  intro b0 b1 b2 b3 b4 b5 b6 b7 b8 b9 i hi
  unfold Region.ready at hi
  rw [List.mem_filter] at hi
  obtain ⟨h1, h2⟩ := hi
  have h3 : i < 10 := by simpa using h1
  have h4 : i = 0 ∨ i = 1 ∨ i = 2 ∨ i = 3 ∨ i = 4 ∨ i = 5 ∨ i = 6 ∨ i = 7 ∨ i = 8 ∨ i = 9 := by omega
  clear h1 h3
  rcases h4 with rfl | rfl | rfl | rfl | rfl | rfl | rfl | rfl | rfl | rfl <;> (simp [Region.binds] at h2; simp [h2])
theorem done8 : ∀ b0 b1 b2 b3 b4 b5 b6 b7 b8 b9 : Bool, Region.ready .any ops8 #[b0, b1, b2, b3, b4, b5, b6, b7, b8, b9] = [] → b0 = true ∧ b1 = true ∧ b2 = true ∧ b3 = true ∧ b4 = true ∧ b5 = true ∧ b6 = true ∧ b7 = true ∧ b8 = true ∧ b9 = true := by
  intro b0 b1 b2 b3 b4 b5 b6 b7 b8 b9 h
  unfold Region.ready at h
  rw [List.filter_eq_nil_iff] at h
  have h0 := h 0 (by simp)
  have h1 := h 1 (by simp)
  have h2 := h 2 (by simp)
  have h3 := h 3 (by simp)
  have h4 := h 4 (by simp)
  have h5 := h 5 (by simp)
  have h6 := h 6 (by simp)
  have h7 := h 7 (by simp)
  have h8 := h 8 (by simp)
  have h9 := h 9 (by simp)
  clear h
  simp [Region.binds] at h0 h1 h2 h3 h4 h5 h6 h7 h8 h9
  simp_all

/-- Where the walk stands within a round's region. -/
def In8 (lo nb sb yb ib : Nat) (rest v1 : Value) (ad : Addr) (m c i : Nat) (x : Int) (W w1 : World) (R : World → Prop) (ds : List Deferred) (u0 u6 u7 u8 u9 u10 u11 u12 u13 u14 u15 u16 u17 u18 u19 u20 u21 u22 u23 u24 u25 u26 u27 u28 u29 u30 u31 u32 u33 u34 u35 u36 : Value) (L : Array Bool) (a : Act) (w : World) : Prop :=
  ∃ b0 b1 b2 b3 b4 b5 b6 b7 b8 b9 : Bool, L = #[b0, b1, b2, b3, b4, b5, b6, b7, b8, b9] ∧ ((b3 = true → b1 = true ∧ b2 = true) ∧ (b4 = true → b3 = true) ∧ (b5 = true → b4 = true) ∧ (b7 = true → b5 = true ∧ b6 = true) ∧ (b8 = true → b0 = true ∧ b7 = true) ∧ (b9 = true → b8 = true)) ∧ a = { tmps := #[u0, .pointer (some ⟨nb, 0, none⟩), .pointer (some ⟨sb, 0, none⟩), .pointer (some ⟨yb, 0, none⟩), .pointer (some ⟨ib, 0, none⟩), rest, u6, u7, u8, u9, u10, u11, u12, u13, u14, u15, u16, u17, u18, u19, u20, u21, u22, u23, u24, u25, selv b0 (.func (.yield lo) #[] #[]) u26, selv b1 (.slice (some ad) m c) u27, selv b2 (.int .i64 (i : Int)) u28, selv b3 (.pointer (some (ad.add i))) u29, selv b4 (.int .i64 x) u30, selv b5 (.slice (some ⟨W.heap.size, 0, none⟩) 1 1) u31, selv b6 (rest) u32, selv b7 (v1) u33, selv b8 (.bool true) u34, selv b9 (.bool false) u35, u36], defers := ds } ∧
    (if b8 = true then R w else if b7 = true then w = w1 else if b5 = true then w = W.alloc (.cells #[.int .i64 x] 3) else w = W)

set_option maxHeartbeats 8000000 in
set_option maxRecDepth 100000 in
theorem round65 {l lo : Nat} {R : World → Prop} {Q : Exit → Act → World → Prop} (ds : List Deferred) (u0 u6 u7 u8 u9 u10 u11 u12 u13 u14 u15 u16 u17 u18 u19 u20 u21 u22 u23 u24 u25 u26 u27 u28 u29 u30 u31 u32 u33 u34 u35 u36 : Value) (nb sb yb ib : Nat) (rest v1 : Value) (ad : Addr) (m c i : Nat) (x : Int) (W0 W w1 : World) (hW : W = W0.drew)
    (hi : i < m) (hm : m ≤ 9223372036854775807) (cS : W.cell? ⟨sb, 0, none⟩ = some (.slice (some ad) m c)) (cY : W.cell? ⟨yb, 0, none⟩ = some (.func (.yield lo) #[] #[])) (cI : W.cell? ⟨ib, 0, none⟩ = some (.int .i64 (i : Int))) (cX : W.cell? (ad.add i) = some (.int .i64 x))
    (hrun : (Builtin.append_ #[28, 28] 28 #[.slice (some ⟨W.heap.size, 0, none⟩) 1 1, rest]).run Tryd.prog (W.alloc (.cells #[.int .i64 x] 3)) = .ok v1 w1) (cY2 : (W.alloc (.cells #[.int .i64 x] 3)).cell? ⟨yb, 0, none⟩ = some (.func (.yield lo) #[] #[])) (cY1 : w1.cell? ⟨yb, 0, none⟩ = some (.func (.yield lo) #[] #[]))
    (hy : YieldAt Fence.wide 0 Tryd.prog lo #[v1] w1 fun e W' => e = .returned (.bool true) ∧ R W') (hQ : ∀ a' W', a'.defers = ds → R W' → Q .normal a' W') :
    (Code.block 3 ((Code.region 8 ops8 true).seq (.cond (.tmp 35) .ret .skip))).wpIn (Fence.wide.inRound l) 0 Tryd.prog Q { tmps := #[u0, .pointer (some ⟨nb, 0, none⟩), .pointer (some ⟨sb, 0, none⟩), .pointer (some ⟨yb, 0, none⟩), .pointer (some ⟨ib, 0, none⟩), rest, u6, u7, u8, u9, u10, u11, u12, u13, u14, u15, u16, u17, u18, u19, u20, u21, u22, u23, u24, u25, u26, u27, u28, u29, u30, u31, u32, u33, u34, u35, u36], defers := ds } W0 := by
  refine wpIn_block (wpIn_seq ?_)
  refine wpIn_region_any (by kernel_rfl) ?_
  change wpAnyIn _ _ _ _ _ _ _ _ _ (World.drew _)
  rw [← hW]
  clear hW
  obtain ⟨fn, tm, asg, bo, hyr, hR⟩ := hy
  refine wpAnyIn_inv (In8 lo nb sb yb ib rest v1 ad m c i x W w1 R ds u0 u6 u7 u8 u9 u10 u11 u12 u13 u14 u15 u16 u17 u18 u19 u20 u21 u22 u23 u24 u25 u26 u27 u28 u29 u30 u31 u32 u33 u34 u35 u36) ?_ ?_ _ _ _ _ ?_ (by decide)
  case _ =>
    rintro L a w j ⟨b0, b1, b2, b3, b4, b5, b6, b7, b8, b9, rfl, hcl, rfl, hw⟩ hj
    rcases ready8 b0 b1 b2 b3 b4 b5 b6 b7 b8 b9 j hj with ⟨rfl, rfl⟩ | ⟨rfl, rfl⟩ | ⟨rfl, rfl⟩ | ⟨rfl, rfl, rfl, rfl⟩ | ⟨rfl, rfl, rfl⟩ | ⟨rfl, rfl, rfl⟩ | ⟨rfl, rfl⟩ | ⟨rfl, rfl, rfl, rfl⟩ | ⟨rfl, rfl, rfl, rfl⟩ | ⟨rfl, rfl, rfl⟩
    · -- 0
      obtain rfl : b8 = false := by cases b8 with | false => rfl | true => simp at hcl
      have hc : w.cell? ⟨yb, 0, none⟩ = some (.func (.yield lo) #[] #[]) := by
        cases b7 <;> cases b5 <;> simp at hw <;> subst hw <;> assumption
      refine opIn_value (v := .func (.yield lo) #[] #[]) (w' := w) rfl rfl (by intro c h; cases h) (by simp [execOp, go_sem, Act.eval, selv, hc]) ?_
      exact ⟨true, b1, b2, b3, b4, b5, b6, b7, false, b9, rfl, by (first | (simp_all; done) | grind), rfl, by simpa using hw⟩
    · -- 1
      obtain rfl : b3 = false := by cases b3 with | false => rfl | true => simp at hcl
      obtain rfl : b4 = false := by cases b4 with | false => rfl | true => simp at hcl
      obtain rfl : b5 = false := by cases b5 with | false => rfl | true => simp at hcl
      obtain rfl : b7 = false := by cases b7 with | false => rfl | true => simp at hcl
      obtain rfl : b8 = false := by cases b8 with | false => rfl | true => simp at hcl
      have hc : w.cell? ⟨sb, 0, none⟩ = some (.slice (some ad) m c) := by
        simp at hw; subst hw; assumption
      refine opIn_value (v := .slice (some ad) m c) (w' := w) rfl rfl (by intro c h; cases h) (by simp [execOp, go_sem, Act.eval, selv, hc]) ?_
      exact ⟨b0, true, b2, false, false, false, b6, false, false, b9, rfl, by (first | (simp_all; done) | grind), rfl, by simpa using hw⟩
    · -- 2
      obtain rfl : b3 = false := by cases b3 with | false => rfl | true => simp at hcl
      obtain rfl : b4 = false := by cases b4 with | false => rfl | true => simp at hcl
      obtain rfl : b5 = false := by cases b5 with | false => rfl | true => simp at hcl
      obtain rfl : b7 = false := by cases b7 with | false => rfl | true => simp at hcl
      obtain rfl : b8 = false := by cases b8 with | false => rfl | true => simp at hcl
      have hc : w.cell? ⟨ib, 0, none⟩ = some (.int .i64 (i : Int)) := by
        simp at hw; subst hw; assumption
      refine opIn_value (v := .int .i64 (i : Int)) (w' := w) rfl rfl (by intro c h; cases h) (by simp [execOp, go_sem, Act.eval, selv, hc]) ?_
      exact ⟨b0, b1, true, false, false, false, b6, false, false, b9, rfl, by (first | (simp_all; done) | grind), rfl, by simpa using hw⟩
    · -- 3
      obtain rfl : b4 = false := by cases b4 with | false => rfl | true => simp at hcl
      obtain rfl : b5 = false := by cases b5 with | false => rfl | true => simp at hcl
      obtain rfl : b7 = false := by cases b7 with | false => rfl | true => simp at hcl
      obtain rfl : b8 = false := by cases b8 with | false => rfl | true => simp at hcl
      refine opIn_value (v := .pointer (some (ad.add i))) (w' := w) rfl rfl (by intro c h; cases h) (by simp [execOp, go_sem, Act.eval, selv]; omega) ?_
      exact ⟨b0, true, true, true, false, false, b6, false, false, b9, rfl, by (first | (simp_all; done) | grind), rfl, by simpa using hw⟩
    · -- 4
      obtain rfl : b5 = false := by cases b5 with | false => rfl | true => simp at hcl
      obtain rfl : b7 = false := by cases b7 with | false => rfl | true => simp at hcl
      obtain rfl : b8 = false := by cases b8 with | false => rfl | true => simp at hcl
      have hc : w.cell? (ad.add i) = some (.int .i64 x) := by
        simp at hw; subst hw; assumption
      refine opIn_value (v := .int .i64 x) (w' := w) rfl rfl (by intro c h; cases h) (by simp [execOp, go_sem, Act.eval, selv, hc]) ?_
      exact ⟨b0, b1, b2, true, true, false, b6, false, false, b9, rfl, by (first | (simp_all; done) | grind), rfl, by simpa using hw⟩
    · -- 5
      obtain rfl : b7 = false := by cases b7 with | false => rfl | true => simp at hcl
      obtain rfl : b8 = false := by cases b8 with | false => rfl | true => simp at hcl
      obtain rfl : w = W := by simpa using hw
      refine opIn_value (v := .slice (some ⟨w.heap.size, 0, none⟩) 1 1) (w' := w.alloc (.cells #[.int .i64 x] 3)) rfl rfl (by intro c h; cases h) (by simp [execOp, go_sem, Act.eval, selv]) ?_
      exact ⟨b0, b1, b2, b3, true, true, b6, false, false, b9, rfl, by (first | (simp_all; done) | grind), rfl, by simp⟩
    · -- 6
      obtain rfl : b7 = false := by cases b7 with | false => rfl | true => simp at hcl
      obtain rfl : b8 = false := by cases b8 with | false => rfl | true => simp at hcl
      refine opIn_value (v := rest) (w' := w) rfl rfl (by intro c h; cases h) (by simp [execOp, go_sem, Act.eval, selv]) ?_
      exact ⟨b0, b1, b2, b3, b4, b5, true, false, false, b9, rfl, by (first | (simp_all; done) | grind), rfl, by simpa using hw⟩
    · -- 7
      obtain rfl : b8 = false := by cases b8 with | false => rfl | true => simp at hcl
      obtain rfl : w = W.alloc (.cells #[.int .i64 x] 3) := by simpa using hw
      refine opIn_value (v := v1) (w' := w1) rfl rfl (by intro c h; cases h) (exec_append (s := .tmp 31) (x := .tmp 32) (t := 28) rfl rfl rfl hrun) ?_
      exact ⟨b0, b1, b2, b3, b4, true, true, true, false, b9, rfl, by (first | (simp_all; done) | grind), rfl, by simp⟩
    · -- 8
      obtain rfl : w = w1 := by simpa using hw
      refine opIn_round (l0 := lo) (f := fn) (tmps := tm) (assign := asg) (body := bo) (w' := w) rfl rfl (by intro c h; cases h) (by simp [execOp, go_sem, Act.eval, selv, hyr]) (fun v w' => v = .bool true ∧ R w') (RoundIn.mono hR (fun e w' h => ⟨_, h.1, rfl, h.2⟩)) ?_
      rintro v w' ⟨rfl, hR'⟩
      exact ⟨true, b1, b2, b3, b4, b5, b6, true, true, b9, rfl, by (first | (simp_all; done) | grind), rfl, by simpa using hR'⟩
    · -- 9
      refine opIn_value (v := .bool false) (w' := w) rfl rfl (by intro c h; cases h) (by simp [execOp, go_sem, Act.eval, selv]) ?_
      exact ⟨b0, b1, b2, b3, b4, b5, b6, b7, true, true, rfl, by (first | (simp_all; done) | grind), rfl, by simpa using hw⟩
  case _ =>
    rintro L a w ⟨b0, b1, b2, b3, b4, b5, b6, b7, b8, b9, rfl, hcl, rfl, hw⟩ hj
    obtain ⟨rfl, rfl, rfl, rfl, rfl, rfl, rfl, rfl, rfl, rfl⟩ := done8 b0 b1 b2 b3 b4 b5 b6 b7 b8 b9 hj
    refine wpIn_cond_false rfl (wpIn_skip ?_)
    exact hQ _ _ rfl (by simpa using hw)
  case _ => exact ⟨false, false, false, false, false, false, false, false, false, false, rfl, by simp, rfl, by simp⟩
end Go.Proofs.YticckanjfdcpaaaDoor.PSimplex
namespace Go.Proofs.YticckanjfdcpaaaDoor.PSimplex
open Go.RowKit Go.Proofs.YticckanjfdcpaaaDoorW.PrintWords Go.Proofs.YticckanjfdcpaaaDoorW.PrintLast Go.Proofs.YticckanjfdcpaaaDoorW.PrintMore
attribute [local go_sem] Oper.semAt_some
set_option linter.unusedVariables false
set_option linter.unusedSimpArgs false

/-- The loop's head. -/
def Head65 (n : Nat) (s : List Int) (J : Cons) (pre : List (List Int)) (C : Nat → Prop) (W : World) (l nb sb : Nat) (a : Act) (w : World) : Prop :=
  ∃ (i ib : Nat) (done : List (List Int)) (C' : Nat → Prop) (ds : List Deferred) (v5 v6 v7 v8 v9 v10 v11 v12 v13 v14 v15 v16 v17 v18 v19 v20 v21 v22 v23 v24 v25 v26 v27 v28 v29 v30 v31 v32 v33 v34 v35 v36 : Value),
    a = { tmps := #[.func (.yield l) #[] #[], .pointer (some ⟨nb, 0, none⟩), .pointer (some ⟨sb, 0, none⟩), .pointer (some ⟨W.heap.size, 0, none⟩), .pointer (some ⟨ib, 0, none⟩), v5, v6, v7, v8, v9, v10, v11, v12, v13, v14, v15, v16, v17, v18, v19, v20, v21, v22, v23, v24, v25, v26, v27, v28, v29, v30, v31, v32, v33, v34, v35, v36], defers := ds } ∧
    i ≤ s.length ∧ done ++ combs (n + 1) (s.drop i) = combs (n + 1) s ∧ J (pre ++ done) C' w ∧ (∀ k, C' k → C k ∨ W.heap.size ≤ k) ∧ Kept W w C ∧ w.heap[ib]? = some (.cells #[.int .i64 (i : Int)] 3 (0, 0)) ∧ ¬ C' ib ∧ W.heap.size < ib ∧
    w.heap[W.heap.size]? = some (.cells #[.func (.yield l) #[] #[]] 93 (0, 0)) ∧ ¬ C' W.heap.size ∧ Marks W.heap.size C' w ds
def mu65 (s : List Int) (a : Act) (w : World) : Nat :=
  match a.eval (.tmp 4) with
  | .pointer (some p) => match w.cell? p with
    | some (.int _ i) => s.length - i.toNat
    | _ => 0
  | _ => 0

set_option maxHeartbeats 2000000 in
theorem round_took (base b M N l : Nat) (J : Cons) (hA : Abide base J) (hL : Lies J) (hT : Takes Tryd.prog l M b N J) (pr : List (List Int)) (C : Nat → Prop) (V : World) (hj : J pr C V) (hlt : pr.length < N) (hbase : base ≤ V.heap.size) (hb : b ≤ V.heap.size) (n bV : Nat) (hM : n + 1 ≤ M) (hn : n ≤ 1000) (v : Value) (y : List Int) (hE : Elem n bV C V v y) (x : Int) :
    ∃ v1 w1, (Builtin.append_ #[28, 28] 28 #[.slice (some ⟨V.drew.heap.size, 0, none⟩) 1 1, v]).run Tryd.prog (V.drew.alloc (.cells #[.int .i64 x] 3)) = .ok v1 w1 ∧ Kept V w1 (fun _ => False) ∧
      YieldAt Fence.wide 0 Tryd.prog l #[v1] w1 fun e W' => e = .returned (.bool true) ∧ ∃ C1, J (pr ++ [x :: y]) C1 W' ∧ (∀ k, C1 k → C k ∨ V.heap.size ≤ k) ∧ Kept V W' C := by
  obtain ⟨Av, cv, rfl, hcv, hC⟩ := Kd.R_reads hE.1
  have hy := hE.2
  have hown : (V.drew.alloc (.cells #[.int .i64 x] 3)).ownsRow b 3 1 (.slice (some ⟨V.drew.heap.size, 0, none⟩) 1 1) 1 (nums .i64 [x]) := own_lit V.drew b 3 .i64 [x] hb (by simp)
  have HO : Kd.R (Kd.int .i64) 3 (V.drew.alloc (.cells #[.int .i64 x] 3)) b (fun k => V.heap.size ≤ k) (.slice (some ⟨V.drew.heap.size, 0, none⟩) 1 1) [x] :=
    Kd.R_of_own (h1 := fun _ => rfl) (enc := Value.int .i64) hown (fun k hk => by simp [Value.ownBlock] at hk; exact Nat.le_of_eq hk)
  obtain ⟨v1, w1, hrun, hR1, hB1, hg1, hor⟩ := run_append_rows (w0 := V.drew.alloc (.cells #[.int .i64 x] 3)) b (.slice (some ⟨V.drew.heap.size, 0, none⟩) 1 1) [x] y Av y.length cv (fun k => V.heap.size ≤ k) HO (Kd.C_alloc (Kd.C_drew hC) _)
    (fun k hk => by simp at hk; have : V.drew.heap.size = V.heap.size := rfl; omega) (Below.refl _ _) (by simp; exact Nat.le_succ_of_le hb) (by simp; omega)
  have hK1 : Kept V w1 (fun _ => False) := Kept.of_grown hg1 ((Kept.drew (Kept.refl V _)).alloc _) (fun k hk => .inr (by simp [Value.ownBlock] at hk; exact Nat.le_of_eq hk))
  have hj1 : J pr C w1 := hA pr C V w1 hj hK1.1 (fun k hk => hK1.2 k (hk.elim (fun h => hL _ _ _ hj k h) (fun h => by omega)) (fun h => h)) (((Out.drew V).trans (Out.alloc _ _)).trans (Out.of_below hB1))
  have hE1 : Elem M b C w1 v1 (x :: y) := ⟨Kd.R_mono hR1 (fun k hk hc => by have := hL _ _ _ hj k hc; omega), by simp; omega⟩
  obtain ⟨fn, tm, asg, bo, hyr, hR⟩ := hT pr C w1 v1 (x :: y) hj1 hlt hE1
  refine ⟨v1, w1, hrun, hK1, fn, tm, asg, bo, hyr, RoundIn.mono hR ?_⟩
  rintro e W' ⟨rfl, C1, hj2, hw, hk⟩
  have hown1 : ∀ k, v1.ownBlock = some k → V.heap.size ≤ k := fun k h => hR1.1 k h
  refine ⟨rfl, C1, hj2, fun k h => ?_, hK1.mono (fun _ h => h.elim) |>.then_ hk (fun k h => ?_)⟩
  · rcases hw k h with h | h | h
    · exact .inl h
    · exact .inr (by have := hK1.1; omega)
    · exact .inr (hown1 k h)
  · rcases h with h | h
    · exact .inl h
    · exact .inr (hown1 k h)

/-- The consumer of the inner faces: each is lengthened by x and handed on. -/
def JIn (J : Cons) (pr : List (List Int)) (x : Int) (C : Nat → Prop) (V : World) : Cons := fun pr' Cc V' => J (pr ++ pr'.map (x :: ·)) Cc V' ∧ (∀ k, Cc k → C k ∨ V.heap.size ≤ k) ∧ Kept V V' C
theorem JIn.abide {J : Cons} {base : Nat} {pr : List (List Int)} {x : Int} {C : Nat → Prop} {V : World} (hA : Abide base J) (hb : base ≤ V.heap.size) : Abide V.heap.size (JIn J pr x C V) := by
  rintro pr' Cc V1 V2 ⟨hj, hC, hK⟩ hs hk ho
  exact ⟨hA _ _ V1 V2 hj hs (fun k h => hk k (h.imp id (fun h => by omega))) ho, hC, by have := hK.1; omega, fun k h1 h2 => (hk k (.inr h1)).trans (hK.2 k h1 h2)⟩
theorem JIn.lies {J : Cons} {pr : List (List Int)} {x : Int} {C : Nat → Prop} {V : World} (hL : Lies J) : Lies (JIn J pr x C V) := by
  rintro pr' Cc V1 ⟨hj, _, _⟩ k hk
  exact hL _ _ _ hj k hk

set_option maxHeartbeats 8000000 in
set_option maxRecDepth 100000 in
theorem feed_succ (n : Nat) (ih : ∀ s, FeedAt n s) (s : List Int) : FeedAt (n + 1) s := by
  intro l M b base N J pre C W nb sb A0 c0 hA hbase hL hT hM hb hJ hnb hsb cnb csb hrow hcl hl hn hs hN
  have hlt : nb < W.heap.size := blk_lt hnb
  have hlts : sb < W.heap.size := blk_lt hsb
  have HA := Aside0.mk hA
  have HT := Aside0.mk hT
  have HL := Aside0.mk hL
  have HJ := Aside0.mk hJ
  have HIH := Aside0.mk ih
  have HROW := Aside0.mk hrow
  have HCL := Aside0.mk hcl
  have HNB := Aside0.mk hnb
  have HSB := Aside0.mk hsb
  have cN : W.cell? ⟨nb, 0, none⟩ = some (.int .i64 ((n + 1 : Nat) : Int)) := by simpa using blk_cell hnb 0
  have hne : ¬ (((n + 1 : Nat) : Int) = 0) := by omega
  clear hA hT hL hJ ih hrow hcl hnb hsb
  rw [← callsIn_wide (n := 0)]
  refine callsIn_of_wp_marks Tryd.func65 rfl trivial ?_ rfl
  simp only [Tryd.ntmps65, List.size_toArray, List.length_cons, List.length_nil, Nat.reduceAdd, Nat.reduceSub, Array.replicate_succ, Array.replicate_zero, List.push_toArray, List.append_toArray, List.nil_append, List.cons_append]
  gi_wp2
  refine wpIn_loop (Head65 n s J pre C W l nb sb) (mu65 s) ?_ ?_
  · have hgrow : Kept W ((W.alloc (.cells #[.func (.yield l) #[] #[]] 93)).alloc (.cells #[.int .i64 0] 3)) C := ((Kept.refl W C).alloc _).alloc _
    refine ⟨0, W.heap.size + 1, [], C, [], _, _, _, _, _, _, _, _, _, _, _, _, _, _, _, _, _, _, _, _, _, _, _, _, _, _, _, _, _, _, _, _, rfl, by omega, by simp, ?_, fun k h => .inl h, hgrow, ?_, ?_, by omega, ?_, ?_, trivial⟩
    · rw [List.append_nil]
      refine HA.out pre C W _ HJ.out hgrow.1 (fun k h => ?_) ((Out.alloc _ _).trans (Out.alloc _ _))
      have : k < W.heap.size := h.elim (fun h => HL.out _ _ _ HJ.out k h) (fun h => by omega)
      rw [Below.heap_alloc _ _ _ (by simp; omega), Below.heap_alloc _ _ _ this]
    · have := blk_new (W.alloc (.cells #[.func (.yield l) #[] #[]] 93)) (.cells #[.int .i64 0] 3)
      simpa using this
    · intro h
      have := HL.out _ _ _ HJ.out _ h
      omega
    · rw [Below.heap_alloc _ _ _ (by simp)]
      exact blk_new W _
    · intro h
      have := HL.out _ _ _ HJ.out _ h
      omega
  · rintro a w ⟨i, ib, done, C', ds, v5, v6, v7, v8, v9, v10, v11, v12, v13, v14, v15, v16, v17, v18, v19, v20, v21, v22, v23, v24, v25, v26, v27, v28, v29, v30, v31, v32, v33, v34, v35, v36, rfl, hi, hdone, hj, hC', hK, hib, cib, ltib, hyb, cyb, hm⟩
    have cI := blk_cell hib 0
    have cY := blk_cell hyb 0
    have cN1 : w.cell? ⟨nb, 0, none⟩ = some (.int .i64 ((n : Int) + 1)) := by
      have := blk_cell (blk_kept HNB.out hK cnb) 0
      simpa using this
    have cS1 : w.cell? ⟨sb, 0, none⟩ = some (.slice A0 s.length c0) := by
      have := blk_cell (blk_kept HSB.out hK csb) 0
      simpa using this
    have bI := cI
    have hl2 : s.length ≤ 9223372036854775807 := by omega
    by_cases hend : i + (n + 1) ≤ s.length
    · have htest : decide ((i : Int) + ((n : Int) + 1) ≤ (s.length : Int)) = true := by simp; omega
      obtain ⟨A1, hA1⟩ : ∃ A1 : Option Addr, A1 = if c0 = i + 1 then A0 else A0.map (·.add (i + 1)) := ⟨_, rfl⟩
      have hcut : ∀ W : World, (Instr.slice 28 (.slice A0 s.length c0) (some (.int .i64 ((i : Int) + 1))) none none).run Tryd.prog W = .ok (.slice A1 (s.length - (i + 1)) (c0 - (i + 1))) W := by
        intro W
        obtain ⟨i0, hi0, hzz⟩ := Option.map_eq_some_iff.1 info3
        simp only [Prod.mk.injEq] at hzz
        obtain ⟨hz0, hz1, hz2⟩ := hzz
        have hel : Tryd.prog.elem 28 = 3 := by simp [Program.elem, Tryd.underlying28]
        have hu : Tryd.prog.underlying 28 = some (.slice (Tryd.prog.elem 28)) := by rw [hel]; exact Tryd.underlying28
        have e1 : ((i : Int) + 1) = ((i + 1 : Nat) : Int) := by omega
        rw [e1, run_slice_l W 28 A0 s.length c0 hu .i64 ((i + 1 : Nat) : Int) (Int.natCast_nonneg _) (by omega), hel, hA1]
        simp [sizeOf, typeInfo, hi0, hz1, sliced, Result.andThen]
      have HA1 := Aside0.mk hA1
      clear hA1
      have hw1 : IntKind.i64.wrap ((i : Int) + 1) = (i : Int) + 1 := by rw [i64_w]; unfold wrap64; omega
      have hw2 : IntKind.i64.wrap ((n : Int) + 1 - 1) = (n : Int) := by rw [i64_w]; unfold wrap64; omega
      have hw3 : IntKind.i64.wrap (n : Int) = (n : Int) := by rw [i64_w]; unfold wrap64; omega
      gi_wp2
      rw [wpIn_wide]
      go_still_tail 6, (by kernel_rfl)
      go_wp2_with (go_at_call 54; refine (faces_val _ _ _ _ _).mono ?_; rintro e w' ⟨rfl, rfl⟩)
      obtain ⟨x, hx⟩ : ∃ x, x = s.getD i 0 := ⟨_, rfl⟩
      have hcomb : combs (n + 1) (s.drop i) = (combs n (s.drop (i + 1))).map (x :: ·) ++ combs (n + 1) (s.drop (i + 1)) := by
        rw [List.drop_eq_getElem_cons (by omega : i < s.length), combs, hx]
        simp [List.getD_eq_getElem?_getD, List.getElem?_eq_getElem (by omega : i < s.length)]
      obtain ⟨w2, hw2⟩ : ∃ w2, ((w.alloc (.cells #[.slice A1 (s.length - (i + 1)) (c0 - (i + 1))] 28)).alloc (.cells #[.int .i64 (n : Int)] 3)).drew = w2 := ⟨_, rfl⟩
      rw [hw2]
      have hz2 : w2.heap.size = w.heap.size + 2 := by rw [← hw2]; simp [World.drew]
      have hK2 : Kept w w2 (fun _ => False) := by rw [← hw2]; exact (((Kept.refl w _).alloc _).alloc _).drew
      have hnb2 : w2.heap[w.heap.size + 1]? = some (.cells #[.int .i64 (n : Int)] 3 (0, 0)) := by
        rw [← hw2]
        have := blk_new (w.alloc (.cells #[.slice A1 (s.length - (i + 1)) (c0 - (i + 1))] 28)) (.cells #[.int .i64 (n : Int)] 3)
        rwa [World.size_alloc] at this
      have hsb2 : w2.heap[w.heap.size]? = some (.cells #[.slice A1 (s.length - (i + 1)) (c0 - (i + 1))] 28 (0, 0)) := by
        rw [← hw2]
        exact (Below.heap_alloc _ _ _ (by simp)).trans (blk_new w _)
      have hO2 : Out w w2 := by rw [← hw2]; exact ((Out.alloc _ _).trans (Out.alloc _ _)).trans (Out.drew _)
      clear hw2
      have hsz : W.heap.size ≤ w.heap.size := hK.1
      have hibl : ib < w.heap.size := blk_lt hib
      have hJ2 : J (pre ++ done) C' w2 := HA.out _ _ w w2 hj hK2.1 (fun k h => hK2.2 k (h.elim (fun h => HL.out _ _ _ hj k h) (fun h => by omega)) (fun h => h)) hO2
      have hCl : ∀ k, C' k → k < w.heap.size := fun k h => HL.out _ _ _ hj k h
      have hrow2 : RowAt w2 A0 s := (HROW.out.kept hK HCL.out).kept hK2 (fun _ _ h => h)
      have hcl2 : ∀ ad, A0 = some ad → ¬ C' ad.block ∧ ad.block < W.heap.size := fun ad e => by
        have h1 : ad.block < W.heap.size := by
          obtain ⟨ad', e', hc'⟩ := HROW.out i (by omega)
          rw [e] at e'
          cases e'
          have := World.block_lt_of_cell? W _ hc'
          rwa [block_add] at this
        refine ⟨fun h => ?_, h1⟩
        rcases hC' _ h with h | h
        · exact HCL.out ad e h
        · omega
      have hcs : ¬ C' sb := fun h => by rcases hC' _ h with h | h; exact csb h; omega
      have hdl : pre.length + (done.length + ((combs n (s.drop (i + 1))).length + (combs (n + 1) (s.drop (i + 1))).length)) ≤ N := by
        rw [← hdone, hcomb] at hN
        simpa using hN
      refine wpIn_block ?_
      refine range_all (gf := 65) (lb := #[.pointer (some ⟨w.heap.size + 1, 0, none⟩), .pointer (some ⟨w.heap.size, 0, none⟩)]) rfl (fun args w => rfl) (JIn J (pre ++ done) x C' w2) C' n (combs n (s.drop (i + 1))).length w2.heap.size (combs n (s.drop (i + 1))) (Nat.le_refl _)
        (JIn.abide HA.out (by omega)) (JIn.lies HL.out) ⟨by simpa using hJ2, fun k h => .inl h, Kept.refl _ _⟩
        (fun v => { tmps := #[.func (.yield l) #[] #[], .pointer (some ⟨nb, 0, none⟩), .pointer (some ⟨sb, 0, none⟩), .pointer (some ⟨W.heap.size, 0, none⟩), .pointer (some ⟨ib, 0, none⟩), v, v6, v7, v8, v9, .int .i64 (i : Int), .int .i64 ((n : Int) + 1), .int .i64 ((i : Int) + ((n : Int) + 1)), .slice A0 s.length c0, .int .i64 (s.length : Int), .bool true, v16, v17, .slice A0 s.length c0, .int .i64 (i : Int), .int .i64 ((i : Int) + 1), .slice A1 (s.length - (i + 1)) (c0 - (i + 1)), .int .i64 ((n : Int) + 1), .int .i64 (n : Int), .func (.func 65) #[] #[.pointer (some ⟨w.heap.size + 1, 0, none⟩), .pointer (some ⟨w.heap.size, 0, none⟩)], v, v26, v27, v28, v29, v30, v31, v32, v33, v34, v35, v36], defers := [] }) ?assign ?body ?call ?done
      case assign =>
        intro l' v V K hK
        gi_wp2
        exact hK
      case body =>
        rintro l' pr' Cc V v y ⟨hjV, hCc, hKV⟩ hlen hE
        have hVz := hKV.1
        obtain ⟨v1, w1, hrun, hK1, hy⟩ := round_took base b M N l J HA.out HL.out HT.out ((pre ++ done) ++ pr'.map (x :: ·)) Cc V hjV (by simp; omega) (by omega) (by omega) n _ hM (by omega) v y hE x
        obtain ⟨ad, eA, hcx⟩ := hrow2 i (by omega)
        have hcA := hcl2 ad eA
        subst eA
        have bY : V.heap[W.heap.size]? = some (.cells #[.func (.yield l) #[] #[]] 93 (0, 0)) := blk_kept (blk_kept hyb hK2 (fun h => h)) hKV cyb
        have bI2 : V.heap[ib]? = some (.cells #[.int .i64 (i : Int)] 3 (0, 0)) := blk_kept (blk_kept hib hK2 (fun h => h)) hKV cib
        have bS : V.heap[sb]? = some (.cells #[.slice (some ad) s.length c0] 28 (0, 0)) := blk_kept (blk_kept (blk_kept HSB.out hK csb) hK2 (fun h => h)) hKV hcs
        have bX : V.cell? (ad.add i) = some (.int .i64 x) := by
          rw [hx]
          exact Go.Proofs.YticckanjfdcpaaaDoorW.PrintWords.cell_kept hcx hKV (by rw [block_add]; exact hcA.1)
        refine round65 (R := fun W' => ∃ C1, J (((pre ++ done) ++ pr'.map (x :: ·)) ++ [x :: y]) C1 W' ∧ (∀ k, C1 k → Cc k ∨ V.heap.size ≤ k) ∧ Kept V W' Cc) [] _ _ _ _ _ _ _ _ _ _ _ _ _ _ _ _ _ _ _ _ _ _ _ _ _ _ _ _ _ _ _ _ nb sb W.heap.size ib v v1 ad s.length c0 i x V V.drew w1 rfl
          (by omega) hl2 (by simpa using blk_cell (w := V.drew) bS 0) (by simpa using blk_cell (w := V.drew) bY 0) (by simpa using blk_cell (w := V.drew) bI2 0) bX hrun
          (by simpa using blk_cell (blk_grown (w := V.drew) bY (World.grownBy_alloc V.drew (.cells #[.int .i64 x] 3) none) (by simp)) 0) (by simpa using blk_cell (blk_kept bY hK1 (fun h => h)) 0) hy ?_
        rintro a' W' _ ⟨C1, hj1, hc1, hk1⟩
        refine ⟨rfl, C1, ⟨?_, fun k h => ?_, ?_⟩, fun k h => ?_, hk1.mono (fun k h => .inl h)⟩
        · simpa [List.append_assoc] using hj1
        · rcases hc1 k h with h | h
          · exact hCc k h
          · exact .inr (by omega)
        · exact hKV.then_ hk1 (fun k h => hCc k h)
        · rcases hc1 k h with h | h
          · exact .inl h
          · exact .inr (.inl h)
      case call =>
        intro l' J' Cc V hA' hL' hT' hJ' hB' hC1 hzV
        have hl3 : (s.drop (i + 1)).length = s.length - (i + 1) := List.length_drop
        have hKB : Kept w2 V (fun _ => False) := Kept.of_below hB' _
        have hno : ∀ k, Cc k → k < w2.heap.size → C' k := fun k h h' => (hC1 k h).elim id (fun h => by omega)
        refine (HIH.out (s.drop (i + 1)) l' n V.heap.size (w2.heap.size + 2) _ J' [] Cc V (w.heap.size + 1) w.heap.size A1 (c0 - (i + 1)) hA' (by omega) hL' hT' (Nat.le_refl _) (Nat.le_refl _) hJ' (blk_kept hnb2 hKB (fun h => h)) ?_ (fun h => ?_) (fun h => ?_) ?_ ?_ (by omega) (by omega) (by omega) (by simp)).mono ?_
        · rw [hl3]
          exact blk_kept hsb2 hKB (fun h => h)
        · have := hCl _ (hno _ h (by omega)); omega
        · have := hCl _ (hno _ h (by omega)); omega
        · rw [HA1.out]
          exact (hrow2.kept hKB (fun _ _ h => h)).drop c0 (i + 1) hl
        · intro ad' e h
          rw [HA1.out] at e
          have hbl : ∃ ad, A0 = some ad ∧ ad'.block = ad.block := by
            split at e
            · exact ⟨ad', e, rfl⟩
            · obtain ⟨ad, e1, e2⟩ := Option.map_eq_some_iff.1 e
              exact ⟨ad, e1, by rw [← e2, block_add]⟩
          obtain ⟨ad, e1, e2⟩ := hbl
          have h1 := hcl2 ad e1
          exact h1.1 (by rw [← e2]; exact hno _ h (by omega))
        · rintro e W' ⟨he, C2, hj2, hc2, hk2⟩
          exact ⟨he, C2, by simpa using hj2, hc2, hk2⟩
      case done =>
        rintro D Cd V ⟨hjV, hCd, hKV⟩ hD hC1 hK3 hDb hDC hDlt hD2
        have hVz := hKV.1
        have cI3 : V.cell? ⟨ib, 0, none⟩ = some (.int .i64 (i : Int)) := by
          have := blk_cell (blk_kept (blk_kept hib hK2 (fun h => h)) hKV cib) 0
          simpa using this
        gi_wp2
        have hVa : Kept V (V.alloc (.cells #[.int .i64 ((i : Int) + 1)] 3)) (fun _ => False) := (Kept.refl V _).alloc _
        have hWV : Kept W V C := by
          refine (hK.then_ hK2 (fun _ h => h.elim)).then_ hKV (fun k h => ?_)
          exact hC' k h
        have hCdl : ∀ k, Cd k → k < V.heap.size := fun k h => HL.out _ _ _ hjV k h
        have hnew : ∀ k, k < w.heap.size → ¬ C' k → ¬ Cd k := fun k h1 h2 h => by
          rcases hC1 k h with h | h
          · exact h2 h
          · omega
        have hbase2 : ∀ k, (Cd k ∨ k < base) → (V.alloc (.cells #[.int .i64 ((i : Int) + 1)] 3)).heap[k]? = V.heap[k]? := fun k h => Below.heap_alloc _ _ _ (h.elim (fun h => hCdl k h) (fun h => by omega))
        have hib' : (V.alloc (.cells #[.int .i64 ((i : Int) + 1)] 3)).heap[V.heap.size]? = some (.cells #[.int .i64 ((i : Int) + 1)] 3 (0, 0)) := blk_new _ _
        refine ⟨⟨i + 1, V.heap.size, done ++ (combs n (s.drop (i + 1))).map (x :: ·), Cd, { target := .collected D, args := #[] } :: ds, _, _, _, _, _, _, _, _, _, _, _, _, _, _, _, _, _, _, _, _, _, _, _, _, _, _, _, _, _, _, _, _, rfl, by omega, ?_, ?_, fun k h => ?_, hWV.alloc _, ?_, fun h => ?_, by omega, ?_, ?_, ?_⟩, ?_⟩
        · rw [List.append_assoc, ← hcomb]
          exact hdone
        · rw [← List.append_assoc]
          exact HA.out _ _ _ _ hjV hVa.1 hbase2 (Out.alloc _ _)
        · rcases hC1 k h with h | h
          · exact hC' k h
          · exact .inr (by omega)
        · exact hib'
        · have := hCdl _ h; omega
        · exact blk_kept (blk_kept (blk_kept hyb hK2 (fun h => h)) hKV cyb) hVa (fun h => h)
        · exact hnew _ (by omega) cyb
        · refine ⟨D, rfl, by omega, by simp; omega, (Below.heap_alloc _ _ _ hDlt).trans hDb, hDC, fun D' hm' => ?_, ?_⟩
          · have := (Marks.low hm D' hm').2.1
            omega
          · refine Marks.step hm (by simp; omega) (fun D' hm' => ?_)
            have h1 := Marks.low hm D' hm'
            exact ⟨(Below.heap_alloc _ _ _ (by omega)).trans ((hKV.2 D' (by omega) h1.2.2).trans (hK2.2 D' h1.2.1 (fun h => h))), hnew _ h1.2.1 h1.2.2⟩
        · have e1 : (V.alloc (.cells #[.int .i64 ((i : Int) + 1)] 3)).cell? ⟨V.heap.size, 0, none⟩ = some (.int .i64 ((i : Int) + 1)) := by simp
          have e2 : w.cell? ⟨ib, 0, none⟩ = some (.int .i64 (i : Int)) := by simpa using bI
          simp [mu65, Act.eval, e1, e2]
          omega
    · have htest : decide ((i : Int) + ((n : Int) + 1) ≤ (s.length : Int)) = false := by simp; omega
      gi_wp2
      change LeavesInM _ _ _ _ _ _ _ _ _
      refine leaves_marks (fun w => results_none rfl _ _ _) ds _ w hm rfl (fun W' hs' hk ho => ⟨⟨_, rfl⟩, C', ?_, hC', ?_⟩)
      · rw [combs_short (n + 1) (s.drop i) (by rw [List.length_drop]; omega), List.append_nil] at hdone
        rw [← hdone]
        exact HA.out _ C' w W' hj (by omega) (fun k h => hk k (h.elim .inr (fun h => .inl (by omega)))) ho
      · exact ⟨by have := hK.1; omega, fun k h1 h2 => (hk k (.inl h1)).trans (hK.2 k h1 h2)⟩
theorem feed : ∀ (n : Nat) (s : List Int), FeedAt n s
  | 0, s => feed_zero s
  | n + 1, s => feed_succ n (feed n) s
end Go.Proofs.YticckanjfdcpaaaDoor.PSimplex
namespace Go.Proofs.YticckanjfdcpaaaDoor.PSimplex
open Go.RowKit Go.Proofs.YticckanjfdcpaaaDoorW.PrintWords Go.Proofs.YticckanjfdcpaaaDoorW.PrintLast Go.Proofs.YticckanjfdcpaaaDoorW.PrintMore
set_option linter.unusedVariables false
set_option linter.unusedSimpArgs false

def simplex_Faces.f (k : Nat) (l0 : List Int) : Option (List (List Int) × Int) :=
  (simplex_Check.f k l0).bind fun e => if e = 0 then some ((List.range l0.length).flatMap (fun n => combs (n + 1) l0), 0) else some ([], e)
theorem simplex_Faces.mono : ∀ a0 k, LeO (simplex_Faces.f k a0) (simplex_Faces.f (k + 1) a0) := by
  intro a0 k
  unfold simplex_Faces.f
  repeat' first
      | (with_reducible exact simplex_Check.mono _ _)
      | (with_reducible exact LeO.refl _)
      | (with_reducible refine LeO.bind ?_ (fun _ => ?_))
theorem check_short {k : Nat} {l : List Int} (h : simplex_Check.f k l = some 0) : l.length ≤ 5 := by
  unfold simplex_Check.f simplex_vertices.f at h
  by_cases c : (l.length : Int) > 5
  · rw [if_neg (by omega), if_pos c] at h
    simp at h
  · omega
theorem combs_len : ∀ (n : Nat) (l : List Int), (combs n l).length ≤ 2 ^ l.length
  | 0, l => by
    rw [show combs 0 l = [[]] by simp [combs]]
    exact Nat.one_le_two_pow
  | n + 1, [] => by simp [combs]
  | n + 1, x :: xs => by
    have h1 := combs_len n xs
    have h2 := combs_len (n + 1) xs
    simp only [combs, List.length_append, List.length_map, List.length_cons, Nat.pow_succ]
    omega
/-- The faces with at most j vertices. -/
def upTo (l : List Int) (j : Nat) : List (List Int) := (List.range j).flatMap (fun n => combs (n + 1) l)
theorem upTo_succ (l : List Int) (j : Nat) : upTo l (j + 1) = upTo l j ++ combs (j + 1) l := by simp [upTo, List.range_succ]
theorem upTo_len (l : List Int) (hl : l.length ≤ 5) : ∀ j, (upTo l j).length ≤ j * 32
  | 0 => by simp [upTo]
  | j + 1 => by
    have h1 := upTo_len l hl j
    have h2 := combs_len (j + 1) l
    have h3 : 2 ^ l.length ≤ 32 := by
      have := Nat.pow_le_pow_right (show 0 < 2 by decide) hl
      simpa using this
    rw [upTo_succ, List.length_append]
    omega
theorem below_of {w w' : World} (h : Kept w w' (fun _ => False)) (ho : Out w w') : Below w.heap.size w w' := ⟨ho.1, ho.2.1, ho.2.2, h.1, fun i hi => h.2 i hi (fun h => h)⟩
theorem rowAt_of {w : World} {A : Option Addr} {l : List Int} (h : Kd.C (Kd.int .i64) w A l.length l) : RowAt w A l := fun i hi => by
  obtain ⟨ad, e, hc⟩ := Kd.at_int h (i : Int) (by omega) (by omega)
  exact ⟨ad, e, by simpa [rd] using hc⟩
/-- One more size. -/
theorem more_faces (A0 : Option Addr) (c0 : Nat) (l0 : List Int) (j : Nat) (v2 : Value) (acc : List (List Int)) (w W : World) (hrow : RowAt w A0 l0) (hl : l0.length ≤ 5) (hc0 : l0.length ≤ c0) (hj : j < l0.length) (hacc : acc.length ≤ 1000)
    (hS : Kd.S (Kd.slice 3 (Kd.int .i64)) 28 W w.heap.size (fun k => w.heap.size ≤ k ∧ k < W.heap.size) v2 acc) (hK : Kept w W (fun _ => False)) (hO : Out w W) :
    Calls Tryd.prog 53 #[v2, .func (.func 65) #[] #[.pointer (some ⟨W.heap.size + 1, 0, none⟩), .pointer (some ⟨W.heap.size, 0, none⟩)]] ((W.alloc (.cells #[.slice A0 l0.length c0] 28)).alloc (.cells #[.int .i64 ((j : Int) + 1)] 3)) fun e w' =>
      ∃ v, e = .returned v ∧ Kd.S (Kd.slice 3 (Kd.int .i64)) 28 w' w.heap.size (fun k => w.heap.size ≤ k ∧ k < w'.heap.size) v (acc ++ combs (j + 1) l0) ∧ Kept w w' (fun _ => False) ∧ Out w w' := by
  obtain ⟨w2, hw2⟩ : ∃ w2, (W.alloc (.cells #[.slice A0 l0.length c0] 28)).alloc (.cells #[.int .i64 ((j : Int) + 1)] 3) = w2 := ⟨_, rfl⟩
  rw [hw2]
  have hz2 : w2.heap.size = W.heap.size + 2 := by rw [← hw2]; simp
  have hK2 : Kept W w2 (fun _ => False) := by rw [← hw2]; exact ((Kept.refl W _).alloc _).alloc _
  have hO2 : Out W w2 := by rw [← hw2]; exact (Out.alloc _ _).trans (Out.alloc _ _)
  have hnb2 : w2.heap[W.heap.size + 1]? = some (.cells #[.int .i64 ((j : Int) + 1)] 3 (0, 0)) := by
    rw [← hw2]
    have := blk_new (W.alloc (.cells #[.slice A0 l0.length c0] 28)) (.cells #[.int .i64 ((j : Int) + 1)] 3)
    rwa [World.size_alloc] at this
  have hsb2 : w2.heap[W.heap.size]? = some (.cells #[.slice A0 l0.length c0] 28 (0, 0)) := by
    rw [← hw2]
    exact (Below.heap_alloc _ _ _ (by simp)).trans (blk_new W _)
  have hS2 := Kd.S_kept hS hK2 (fun _ _ h => h)
  have hWz := hK.1
  have hN : acc.length + (combs (j + 1) l0).length < 5000000000000 := by
    have h2 := combs_len (j + 1) l0
    have h3 : 2 ^ l0.length ≤ 32 := by
      have := Nat.pow_le_pow_right (show 0 < 2 by decide) hl
      simpa using this
    omega
  have hblk : ∀ ad, A0 = some ad → ∀ i, i < l0.length → ad.block < w.heap.size := fun ad e i hi => by
    obtain ⟨ad', e', hc'⟩ := hrow i hi
    rw [e] at e'
    cases e'
    have := World.block_lt_of_cell? w _ hc'
    rwa [block_add] at this
  refine (appendSeq_calls 65 #[.pointer (some ⟨W.heap.size + 1, 0, none⟩), .pointer (some ⟨W.heap.size, 0, none⟩)] (fun args w => rfl) v2 acc (combs (j + 1) l0) w.heap.size (j + 1) (combs (j + 1) l0).length (fun k => w.heap.size ≤ k ∧ k < W.heap.size) w2 hS2 (fun k h => ⟨h.1, by omega⟩) (by omega) hN ?_).mono ?_
  · intro l J' C V hA hL hT hJ hB hC
    have hKB : Kept w2 V (fun _ => False) := Kept.of_below hB _
    have hno : ∀ k, C k → k < w2.heap.size → w.heap.size ≤ k ∧ k < W.heap.size := fun k h h' => (hC k h).elim id (fun h => by omega)
    refine (feed (j + 1) l0 l (j + 1) V.heap.size V.heap.size _ J' [] C V (W.heap.size + 1) W.heap.size A0 c0 hA (Nat.le_refl _) hL hT (Nat.le_refl _) (Nat.le_refl _) hJ ?_ (blk_kept hsb2 hKB (fun h => h)) (fun h => ?_) (fun h => ?_) (((hrow.kept hK (fun _ _ h => h)).kept hK2 (fun _ _ h => h)).kept hKB (fun _ _ h => h)) ?_ hc0 (by omega) (by omega) (by simp)).mono ?_
    · have := blk_kept hnb2 hKB (fun h => h)
      simpa using this
    · have := (hno _ h (by omega)).2; omega
    · have := (hno _ h (by omega)).2; omega
    · intro ad e h
      have h1 := hblk ad e 0 (by omega)
      have h2 := (hno _ h (by omega)).1
      omega
    · rintro e W' ⟨he, C2, hj2, hc2, hk2⟩
      exact ⟨he, C2, by simpa using hj2, hc2, hk2⟩
  · rintro e w' ⟨v, rfl, hS', hK', hO'⟩
    refine ⟨v, rfl, Kd.S_mono (Kd.S_bound hS') (fun k h => ⟨?_, h.2.2.1⟩), ?_, (hO.trans hO2).trans hO'⟩
    · exact h.2.1
    · exact (hK.then_ hK2 (fun _ h => h.elim)).then_ hK' (fun k h => .inr h.1)

set_option maxHeartbeats 8000000 in
set_option maxRecDepth 100000 in
theorem simplex_Faces.calls (k : Nat) (A0 : Option Addr) (c0 : Nat) (l0 : List Int) (r1 : List (List Int)) (r2 : Int) (w : World) (hr0 : Kd.C (Kd.int .i64) w A0 l0.length l0) (hc0 : l0.length ≤ c0) (h : simplex_Faces.f k l0 = some (r1, r2)) :
    Calls Tryd.prog 34 #[.slice A0 l0.length c0] w fun e w' => ∃ v0_ : Value, e = .returned (.tuple #[v0_, .int .i64 r2]) ∧ Kd.S (Kd.slice 3 (Kd.int .i64)) 28 w' w.heap.size (fun _ => True) v0_ r1 ∧ Below w.heap.size w w' := by
  unfold simplex_Faces.f at h
  obtain ⟨t151, A20, H⟩ := Option.bind_eq_some_iff.mp h
  have HR0 := Aside0.mk hr0
  have HC0 := Aside0.mk hc0
  have A2 := Aside0.mk A20
  clear hr0 hc0 A20 h
  by_cases c : t151 = 0
  · subst c
    rw [if_pos rfl] at H
    have H1 := Option.some.inj H
    simp only [Prod.mk.injEq] at H1
    obtain ⟨hr1, rfl⟩ := H1
    clear H
    have HRES := Aside0.mk (show upTo l0 l0.length = r1 from hr1)
    have hl5 := check_short A2.out
    have hne : ¬ ((0 : Int) ≠ 0) := by omega
    clear hr1
    have bL : decide ((l0.length : Int) ≤ 5) = true := by simp; omega
    go_enter Tryd.func34, Tryd.ntmps34
    go_wp2_with (first | ((with_reducible refine gate_callee (f := 25) rfl ?_); refine goesL_ (some 6) rfl rfl Tryd.func25 (by kernel_rfl) rfl #[.slice A0 l0.length c0] rfl (by (try simp only [List.map_toArray, List.map_cons, List.map_nil]); first | done | rfl | (simp only [List.length_drop, List.length_take]; rfl)) ?_; (with_reducible refine (simplex_Check.calls k _ _ l0 0 _ ?side1 ?side2 A2.out).mono ?_); (case side1 => exact HR0.out); (case side2 => exact HC0.out); rintro e w' ⟨rfl, ⟨nd, rfl⟩⟩; refine ⟨_, rfl, ?_⟩))
    have HS0 : Aside0 (Kd.S (Kd.slice 3 (Kd.int .i64)) 28 (w.drewN nd) w.heap.size (fun k => w.heap.size ≤ k ∧ k < (w.drewN nd).heap.size) (.slice none 0 0) ([] : List (List Int))) := ⟨Kd.S_nil _ _ _ _ _⟩
    go_loopg [2, 12] l0.length (fun kq v2 v12 w' => ∃ (j : Nat), v12 = .int .i64 (j : Int) ∧ Aside0 (j + kq = l0.length) ∧ Aside0 (Kd.S (Kd.slice 3 (Kd.int .i64)) 28 w' w.heap.size (fun k => w.heap.size ≤ k ∧ k < w'.heap.size) v2 (upTo l0 j)) ∧ Aside0 (Kept w w' (fun _ => False)) ∧ Aside0 (Out w w'))
    case atStart => exact ⟨0, by simp, ⟨by omega⟩, HS0, ⟨(Kept.refl w _).drewN _⟩, ⟨⟨rfl, rfl, rfl⟩⟩⟩
    case round =>
      clear HS0
      obtain ⟨j, rfl, HJ, HS, HK, HO⟩ := hrel
      by_cases c : (j : Int) < (l0.length : Int)
      · have cb : decide ((j : Int) < (l0.length : Int)) = true := decide_eq_true c
        have hjl : j < l0.length := by omega
        have hw1 : IntKind.i64.wrap ((j : Int) + 1) = (j : Int) + 1 := by rw [i64_w]; unfold wrap64; omega
        have HM := Aside0.mk (fun v2 w' hS hK hO => more_faces A0 c0 l0 j v2 (upTo l0 j) w w' (rowAt_of HR0.out) hl5 HC0.out hjl (by have := upTo_len l0 hl5 j; omega) hS hK hO)
        go_wp2_with (first
          | (go_at_call 54; refine (faces_val _ _ _ _ _).mono ?_; rintro e w' ⟨rfl, rfl⟩)
          | (go_at_call 53; refine (HM.out _ _ HS.out HK.out HO.out).mono ?_; rintro e w3 ⟨v3, rfl, hS3, hK3, hO3⟩))
        have HS3 := Aside0.mk hS3
        have HK3 := Aside0.mk hK3
        have HO3 := Aside0.mk hO3
        clear hS3 hK3 hO3
        go_roundg (gk - 1)
        case measure => have := HJ.out; omega
        case rel => exact ⟨j + 1, by first | rfl | simp [*], ⟨by have := HJ.out; omega⟩, ⟨by rw [upTo_succ]; exact HS3.out⟩, HK3, HO3⟩
      · have cb : decide ((j : Int) < (l0.length : Int)) = false := decide_eq_false c
        obtain rfl : j = l0.length := by have := HJ.out; omega
        go_wp2
        go_ret2
        refine ⟨_, rfl, ?_, below_of HK.out HO.out⟩
        rw [← HRES.out]
        exact Kd.S_mono HS.out (fun _ _ => trivial)
  · rw [if_neg c] at H
    have H1 := Option.some.inj H
    simp only [Prod.mk.injEq] at H1
    obtain ⟨rfl, rfl⟩ := H1
    clear H
    have cb : (t151 == 0) = false := beq_eq_false_iff_ne.mpr c
    have cb1 : (t151 != 0) = true := bne_iff_ne.mpr c
    go_enter Tryd.func34, Tryd.ntmps34
    go_wp2_with (first | ((with_reducible refine gate_callee (f := 25) rfl ?_); refine goesL_ (some 6) rfl rfl Tryd.func25 (by kernel_rfl) rfl #[.slice A0 l0.length c0] rfl (by (try simp only [List.map_toArray, List.map_cons, List.map_nil]); first | done | rfl | (simp only [List.length_drop, List.length_take]; rfl)) ?_; (with_reducible refine (simplex_Check.calls k _ _ l0 t151 _ ?side1 ?side2 A2.out).mono ?_); (case side1 => exact HR0.out); (case side2 => exact HC0.out); rintro e w' ⟨rfl, ⟨nd, rfl⟩⟩; refine ⟨_, rfl, ?_⟩))
    go_ret2
    exact ⟨_, rfl, Kd.S_nil _ _ _ _ _, pw_below_drewN (Below.refl _ _) _⟩
end Go.Proofs.YticckanjfdcpaaaDoor.PSimplex
namespace Go.Proofs.YticckanjfdcpaaaDoor.PSimplex
open Go.RowKit Go.Proofs.YticckanjfdcpaaaDoorW.PrintWords Go.Proofs.YticckanjfdcpaaaDoorW.PrintLast Go.Proofs.YticckanjfdcpaaaDoorW.PrintMore
attribute [local go_sem] max2_int min2_int max_two min_two max_three min_three max_four min_four   -- for this text's walks alone
set_option linter.unusedVariables false
set_option linter.unusedSimpArgs false

/-! ### toruslaw07_awake: function 12 -/
def toruslaw07_awake.f (k : Nat)  : Option (Bool) := (simplex_Facets.f k (([2, 5, 7] : List Int))).bind fun bt183 => ((simplex_Faces.f k (([2, 5] : List Int))).bind fun bt190 => ((simplex_Join.f k (([1, 3] : List Int)) (([2] : List Int))).bind fun bt200 => ((simplex_Number.f k (([0, 3] : List Int))).bind fun bt207 => ((simplex_Numbered.f k 1 4).bind fun bt209 => ((simplex_Sort.f k (([1, 3, 2] : List Int))).bind fun bt216 => (if bt183.2 = 0 then ((torusref07_Same.f k bt183.1 (([(([5, 7] : List Int)), (([2, 7] : List Int)), (([2, 5] : List Int))] : List (List Int)))).bind fun t233 => (if t233 = true then (if bt190.2 = 0 then ((torusref07_Same.f k bt190.1 (([(([2] : List Int)), (([5] : List Int)), (([2, 5] : List Int))] : List (List Int)))).bind fun t246 => (if t246 = true then ((toruslaw07_is.f k bt200.1 bt200.2 (([1, 2, 3] : List Int))).bind fun t250 => (if t250 = true then (if bt207.1 = 3 then (if bt207.2 = 0 then ((toruslaw07_is.f k bt209.1 bt209.2 (([1, 3] : List Int))).bind fun t254 => (if t254 = true then ((toruslaw07_is.f k bt216.1 bt216.2.2 (([1, 2, 3] : List Int))).bind fun t258 => (if t258 = true then (if bt216.2.1 = (-1) then ((simplex_Cmp.f k (([5] : List Int)) (([0, 1] : List Int))).bind fun t265 => (some (t265 == (-1)))) else (none)) else (none))) else (none))) else (none)) else (none)) else (none))) else (none))) else (none)) else (none))) else (none)))))))
theorem toruslaw07_awake.mono : ∀ k, LeO (toruslaw07_awake.f k ) (toruslaw07_awake.f (k + 1) ) := by
 intro  k
 unfold toruslaw07_awake.f
 repeat' first
   |(with_reducible exact simplex_Cmp.mono _ _ _)
   |(with_reducible exact simplex_Faces.mono _ _)
   |(with_reducible exact simplex_Facets.mono _ _)
   |(with_reducible exact simplex_Join.mono _ _ _)
   |(with_reducible exact simplex_Number.mono _ _)
   |(with_reducible exact simplex_Numbered.mono _ _ _)
   |(with_reducible exact simplex_Sort.mono _ _)
   |(with_reducible exact toruslaw07_is.mono _ _ _ _)
   |(with_reducible exact torusref07_Same.mono _ _ _)
   |(with_reducible exact LeO.refl _)
   |(with_reducible exact LeO.none _)
   |(with_reducible refine LeO.ite ?_ ?_)
   |(with_reducible refine LeO.bind ?_ (fun _ => ?_))
set_option maxHeartbeats 8000000 in
set_option maxRecDepth 100000 in
theorem toruslaw07_awake.calls (k : Nat)  (r : Bool) (w : World) (hg : Aside0 (Glob w)) (h : toruslaw07_awake.f k  = some r) :
  Calls Tryd.prog 12 #[] w fun e w' => e = .returned (.bool r) ∧ Below w.heap.size w w' := by
 have HB := Aside0.mk (Below.refl w.heap.size w)
 have H : ((simplex_Facets.f k (([2, 5, 7] : List Int))).bind fun bt183 => ((simplex_Faces.f k (([2, 5] : List Int))).bind fun bt190 => ((simplex_Join.f k (([1, 3] : List Int)) (([2] : List Int))).bind fun bt200 => ((simplex_Number.f k (([0, 3] : List Int))).bind fun bt207 => ((simplex_Numbered.f k 1 4).bind fun bt209 => ((simplex_Sort.f k (([1, 3, 2] : List Int))).bind fun bt216 => (if bt183.2 = 0 then ((torusref07_Same.f k bt183.1 (([(([5, 7] : List Int)), (([2, 7] : List Int)), (([2, 5] : List Int))] : List (List Int)))).bind fun t233 => (if t233 = true then (if bt190.2 = 0 then ((torusref07_Same.f k bt190.1 (([(([2] : List Int)), (([5] : List Int)), (([2, 5] : List Int))] : List (List Int)))).bind fun t246 => (if t246 = true then ((toruslaw07_is.f k bt200.1 bt200.2 (([1, 2, 3] : List Int))).bind fun t250 => (if t250 = true then (if bt207.1 = 3 then (if bt207.2 = 0 then ((toruslaw07_is.f k bt209.1 bt209.2 (([1, 3] : List Int))).bind fun t254 => (if t254 = true then ((toruslaw07_is.f k bt216.1 bt216.2.2 (([1, 2, 3] : List Int))).bind fun t258 => (if t258 = true then (if bt216.2.1 = (-1) then ((simplex_Cmp.f k (([5] : List Int)) (([0, 1] : List Int))).bind fun t265 => (some (t265 == (-1)))) else (none)) else (none))) else (none))) else (none)) else (none)) else (none))) else (none))) else (none)) else (none))) else (none)))))))) = some r := h
 clear h
 obtain ⟨y180, hy180⟩ : ∃ y_ : List Int, y_ = (([2, 5, 7] : List Int)) := ⟨_, rfl⟩
 replace H : ((simplex_Facets.f k y180).bind fun bt183 => ((simplex_Faces.f k (([2, 5] : List Int))).bind fun bt190 => ((simplex_Join.f k (([1, 3] : List Int)) (([2] : List Int))).bind fun bt200 => ((simplex_Number.f k (([0, 3] : List Int))).bind fun bt207 => ((simplex_Numbered.f k 1 4).bind fun bt209 => ((simplex_Sort.f k (([1, 3, 2] : List Int))).bind fun bt216 => (if bt183.2 = 0 then ((torusref07_Same.f k bt183.1 (([(([5, 7] : List Int)), (([2, 7] : List Int)), (([2, 5] : List Int))] : List (List Int)))).bind fun t233 => (if t233 = true then (if bt190.2 = 0 then ((torusref07_Same.f k bt190.1 (([(([2] : List Int)), (([5] : List Int)), (([2, 5] : List Int))] : List (List Int)))).bind fun t246 => (if t246 = true then ((toruslaw07_is.f k bt200.1 bt200.2 (([1, 2, 3] : List Int))).bind fun t250 => (if t250 = true then (if bt207.1 = 3 then (if bt207.2 = 0 then ((toruslaw07_is.f k bt209.1 bt209.2 (([1, 3] : List Int))).bind fun t254 => (if t254 = true then ((toruslaw07_is.f k bt216.1 bt216.2.2 (([1, 2, 3] : List Int))).bind fun t258 => (if t258 = true then (if bt216.2.1 = (-1) then ((simplex_Cmp.f k (([5] : List Int)) (([0, 1] : List Int))).bind fun t265 => (some (t265 == (-1)))) else (none)) else (none))) else (none))) else (none)) else (none)) else (none))) else (none))) else (none)) else (none))) else (none)))))))) = some r := by first | (rw [hy180]; with_reducible exact H) | (have H2_ := (Option.bind_some _ _).symm.trans H; rw [hy180]; with_reducible exact H2_) | (have H2_ := (Option.bind_some _ _).symm.trans H; with_reducible exact H2_) | with_reducible exact H | (rw [hy180]; exact H) | exact H
 have Ny180 := Aside0.mk hy180
 clear hy180
 replace H := Option.bind_eq_some_iff.mp H
 obtain ⟨⟨t183, t184⟩, A10, H⟩ := H
 dsimp only at H
 have A1 := Aside0.mk A10
 clear A10
 obtain ⟨y187, hy187⟩ : ∃ y_ : List Int, y_ = (([2, 5] : List Int)) := ⟨_, rfl⟩
 replace H : ((simplex_Faces.f k y187).bind fun bt190 => ((simplex_Join.f k (([1, 3] : List Int)) (([2] : List Int))).bind fun bt200 => ((simplex_Number.f k (([0, 3] : List Int))).bind fun bt207 => ((simplex_Numbered.f k 1 4).bind fun bt209 => ((simplex_Sort.f k (([1, 3, 2] : List Int))).bind fun bt216 => (if t184 = 0 then ((torusref07_Same.f k t183 (([(([5, 7] : List Int)), (([2, 7] : List Int)), (([2, 5] : List Int))] : List (List Int)))).bind fun t233 => (if t233 = true then (if bt190.2 = 0 then ((torusref07_Same.f k bt190.1 (([(([2] : List Int)), (([5] : List Int)), (([2, 5] : List Int))] : List (List Int)))).bind fun t246 => (if t246 = true then ((toruslaw07_is.f k bt200.1 bt200.2 (([1, 2, 3] : List Int))).bind fun t250 => (if t250 = true then (if bt207.1 = 3 then (if bt207.2 = 0 then ((toruslaw07_is.f k bt209.1 bt209.2 (([1, 3] : List Int))).bind fun t254 => (if t254 = true then ((toruslaw07_is.f k bt216.1 bt216.2.2 (([1, 2, 3] : List Int))).bind fun t258 => (if t258 = true then (if bt216.2.1 = (-1) then ((simplex_Cmp.f k (([5] : List Int)) (([0, 1] : List Int))).bind fun t265 => (some (t265 == (-1)))) else (none)) else (none))) else (none))) else (none)) else (none)) else (none))) else (none))) else (none)) else (none))) else (none))))))) = some r := by first | (rw [hy187]; with_reducible exact H) | (have H2_ := (Option.bind_some _ _).symm.trans H; rw [hy187]; with_reducible exact H2_) | (have H2_ := (Option.bind_some _ _).symm.trans H; with_reducible exact H2_) | with_reducible exact H | (rw [hy187]; exact H) | exact H
 have Ny187 := Aside0.mk hy187
 clear hy187
 replace H := Option.bind_eq_some_iff.mp H
 obtain ⟨⟨t190, t191⟩, A20, H⟩ := H
 dsimp only at H
 have A2 := Aside0.mk A20
 clear A20
 obtain ⟨y194, hy194⟩ : ∃ y_ : List Int, y_ = (([1, 3] : List Int)) := ⟨_, rfl⟩
 replace H : ((simplex_Join.f k y194 (([2] : List Int))).bind fun bt200 => ((simplex_Number.f k (([0, 3] : List Int))).bind fun bt207 => ((simplex_Numbered.f k 1 4).bind fun bt209 => ((simplex_Sort.f k (([1, 3, 2] : List Int))).bind fun bt216 => (if t184 = 0 then ((torusref07_Same.f k t183 (([(([5, 7] : List Int)), (([2, 7] : List Int)), (([2, 5] : List Int))] : List (List Int)))).bind fun t233 => (if t233 = true then (if t191 = 0 then ((torusref07_Same.f k t190 (([(([2] : List Int)), (([5] : List Int)), (([2, 5] : List Int))] : List (List Int)))).bind fun t246 => (if t246 = true then ((toruslaw07_is.f k bt200.1 bt200.2 (([1, 2, 3] : List Int))).bind fun t250 => (if t250 = true then (if bt207.1 = 3 then (if bt207.2 = 0 then ((toruslaw07_is.f k bt209.1 bt209.2 (([1, 3] : List Int))).bind fun t254 => (if t254 = true then ((toruslaw07_is.f k bt216.1 bt216.2.2 (([1, 2, 3] : List Int))).bind fun t258 => (if t258 = true then (if bt216.2.1 = (-1) then ((simplex_Cmp.f k (([5] : List Int)) (([0, 1] : List Int))).bind fun t265 => (some (t265 == (-1)))) else (none)) else (none))) else (none))) else (none)) else (none)) else (none))) else (none))) else (none)) else (none))) else (none)))))) = some r := by first | (rw [hy194]; with_reducible exact H) | (have H2_ := (Option.bind_some _ _).symm.trans H; rw [hy194]; with_reducible exact H2_) | (have H2_ := (Option.bind_some _ _).symm.trans H; with_reducible exact H2_) | with_reducible exact H | (rw [hy194]; exact H) | exact H
 have Ny194 := Aside0.mk hy194
 clear hy194
 obtain ⟨y197, hy197⟩ : ∃ y_ : List Int, y_ = (([2] : List Int)) := ⟨_, rfl⟩
 replace H : ((simplex_Join.f k y194 y197).bind fun bt200 => ((simplex_Number.f k (([0, 3] : List Int))).bind fun bt207 => ((simplex_Numbered.f k 1 4).bind fun bt209 => ((simplex_Sort.f k (([1, 3, 2] : List Int))).bind fun bt216 => (if t184 = 0 then ((torusref07_Same.f k t183 (([(([5, 7] : List Int)), (([2, 7] : List Int)), (([2, 5] : List Int))] : List (List Int)))).bind fun t233 => (if t233 = true then (if t191 = 0 then ((torusref07_Same.f k t190 (([(([2] : List Int)), (([5] : List Int)), (([2, 5] : List Int))] : List (List Int)))).bind fun t246 => (if t246 = true then ((toruslaw07_is.f k bt200.1 bt200.2 (([1, 2, 3] : List Int))).bind fun t250 => (if t250 = true then (if bt207.1 = 3 then (if bt207.2 = 0 then ((toruslaw07_is.f k bt209.1 bt209.2 (([1, 3] : List Int))).bind fun t254 => (if t254 = true then ((toruslaw07_is.f k bt216.1 bt216.2.2 (([1, 2, 3] : List Int))).bind fun t258 => (if t258 = true then (if bt216.2.1 = (-1) then ((simplex_Cmp.f k (([5] : List Int)) (([0, 1] : List Int))).bind fun t265 => (some (t265 == (-1)))) else (none)) else (none))) else (none))) else (none)) else (none)) else (none))) else (none))) else (none)) else (none))) else (none)))))) = some r := by first | (rw [hy197]; with_reducible exact H) | (have H2_ := (Option.bind_some _ _).symm.trans H; rw [hy197]; with_reducible exact H2_) | (have H2_ := (Option.bind_some _ _).symm.trans H; with_reducible exact H2_) | with_reducible exact H | (rw [hy197]; exact H) | exact H
 have Ny197 := Aside0.mk hy197
 clear hy197
 replace H := Option.bind_eq_some_iff.mp H
 obtain ⟨⟨t200, t203⟩, A30, H⟩ := H
 dsimp only at H
 have A3 := Aside0.mk A30
 clear A30
 obtain ⟨y204, hy204⟩ : ∃ y_ : List Int, y_ = (([0, 3] : List Int)) := ⟨_, rfl⟩
 replace H : ((simplex_Number.f k y204).bind fun bt207 => ((simplex_Numbered.f k 1 4).bind fun bt209 => ((simplex_Sort.f k (([1, 3, 2] : List Int))).bind fun bt216 => (if t184 = 0 then ((torusref07_Same.f k t183 (([(([5, 7] : List Int)), (([2, 7] : List Int)), (([2, 5] : List Int))] : List (List Int)))).bind fun t233 => (if t233 = true then (if t191 = 0 then ((torusref07_Same.f k t190 (([(([2] : List Int)), (([5] : List Int)), (([2, 5] : List Int))] : List (List Int)))).bind fun t246 => (if t246 = true then ((toruslaw07_is.f k t200 t203 (([1, 2, 3] : List Int))).bind fun t250 => (if t250 = true then (if bt207.1 = 3 then (if bt207.2 = 0 then ((toruslaw07_is.f k bt209.1 bt209.2 (([1, 3] : List Int))).bind fun t254 => (if t254 = true then ((toruslaw07_is.f k bt216.1 bt216.2.2 (([1, 2, 3] : List Int))).bind fun t258 => (if t258 = true then (if bt216.2.1 = (-1) then ((simplex_Cmp.f k (([5] : List Int)) (([0, 1] : List Int))).bind fun t265 => (some (t265 == (-1)))) else (none)) else (none))) else (none))) else (none)) else (none)) else (none))) else (none))) else (none)) else (none))) else (none))))) = some r := by first | (rw [hy204]; with_reducible exact H) | (have H2_ := (Option.bind_some _ _).symm.trans H; rw [hy204]; with_reducible exact H2_) | (have H2_ := (Option.bind_some _ _).symm.trans H; with_reducible exact H2_) | with_reducible exact H | (rw [hy204]; exact H) | exact H
 have Ny204 := Aside0.mk hy204
 clear hy204
 replace H := Option.bind_eq_some_iff.mp H
 obtain ⟨⟨t207, t208⟩, A40, H⟩ := H
 dsimp only at H
 have A4 := Aside0.mk A40
 clear A40
 replace H := Option.bind_eq_some_iff.mp H
 obtain ⟨⟨t209, t210⟩, A50, H⟩ := H
 dsimp only at H
 have A5 := Aside0.mk A50
 clear A50
 obtain ⟨y213, hy213⟩ : ∃ y_ : List Int, y_ = (([1, 3, 2] : List Int)) := ⟨_, rfl⟩
 replace H : ((simplex_Sort.f k y213).bind fun bt216 => (if t184 = 0 then ((torusref07_Same.f k t183 (([(([5, 7] : List Int)), (([2, 7] : List Int)), (([2, 5] : List Int))] : List (List Int)))).bind fun t233 => (if t233 = true then (if t191 = 0 then ((torusref07_Same.f k t190 (([(([2] : List Int)), (([5] : List Int)), (([2, 5] : List Int))] : List (List Int)))).bind fun t246 => (if t246 = true then ((toruslaw07_is.f k t200 t203 (([1, 2, 3] : List Int))).bind fun t250 => (if t250 = true then (if t207 = 3 then (if t208 = 0 then ((toruslaw07_is.f k t209 t210 (([1, 3] : List Int))).bind fun t254 => (if t254 = true then ((toruslaw07_is.f k bt216.1 bt216.2.2 (([1, 2, 3] : List Int))).bind fun t258 => (if t258 = true then (if bt216.2.1 = (-1) then ((simplex_Cmp.f k (([5] : List Int)) (([0, 1] : List Int))).bind fun t265 => (some (t265 == (-1)))) else (none)) else (none))) else (none))) else (none)) else (none)) else (none))) else (none))) else (none)) else (none))) else (none))) = some r := by first | (rw [hy213]; with_reducible exact H) | (have H2_ := (Option.bind_some _ _).symm.trans H; rw [hy213]; with_reducible exact H2_) | (have H2_ := (Option.bind_some _ _).symm.trans H; with_reducible exact H2_) | with_reducible exact H | (rw [hy213]; exact H) | exact H
 have Ny213 := Aside0.mk hy213
 clear hy213
 replace H := Option.bind_eq_some_iff.mp H
 obtain ⟨⟨t216, t217, t218⟩, A60, H⟩ := H
 dsimp only at H
 have A6 := Aside0.mk A60
 clear A60
 by_cases c7 : t184 = 0
 ·rw [if_pos c7] at H
  have c7b0 : (t184 == 0) = true := beq_iff_eq.mpr c7
  have c7b1 : (t184 != 0) = false := bne_eq_false_iff_eq.mpr c7
  clear c7
  obtain ⟨y221, hy221⟩ : ∃ y_ : List Int, y_ = (([5, 7] : List Int)) := ⟨_, rfl⟩
  replace H : ((torusref07_Same.f k t183 (([y221, (([2, 7] : List Int)), (([2, 5] : List Int))] : List (List Int)))).bind fun t233 => (if t233 = true then (if t191 = 0 then ((torusref07_Same.f k t190 (([(([2] : List Int)), (([5] : List Int)), (([2, 5] : List Int))] : List (List Int)))).bind fun t246 => (if t246 = true then ((toruslaw07_is.f k t200 t203 (([1, 2, 3] : List Int))).bind fun t250 => (if t250 = true then (if t207 = 3 then (if t208 = 0 then ((toruslaw07_is.f k t209 t210 (([1, 3] : List Int))).bind fun t254 => (if t254 = true then ((toruslaw07_is.f k t216 t218 (([1, 2, 3] : List Int))).bind fun t258 => (if t258 = true then (if t217 = (-1) then ((simplex_Cmp.f k (([5] : List Int)) (([0, 1] : List Int))).bind fun t265 => (some (t265 == (-1)))) else (none)) else (none))) else (none))) else (none)) else (none)) else (none))) else (none))) else (none)) else (none))) = some r := by first | (rw [hy221]; with_reducible exact H) | (have H2_ := (Option.bind_some _ _).symm.trans H; rw [hy221]; with_reducible exact H2_) | (have H2_ := (Option.bind_some _ _).symm.trans H; with_reducible exact H2_) | with_reducible exact H | (rw [hy221]; exact H) | exact H
  have Ny221 := Aside0.mk hy221
  clear hy221
  obtain ⟨y224, hy224⟩ : ∃ y_ : List Int, y_ = (([2, 7] : List Int)) := ⟨_, rfl⟩
  replace H : ((torusref07_Same.f k t183 (([y221, y224, (([2, 5] : List Int))] : List (List Int)))).bind fun t233 => (if t233 = true then (if t191 = 0 then ((torusref07_Same.f k t190 (([(([2] : List Int)), (([5] : List Int)), (([2, 5] : List Int))] : List (List Int)))).bind fun t246 => (if t246 = true then ((toruslaw07_is.f k t200 t203 (([1, 2, 3] : List Int))).bind fun t250 => (if t250 = true then (if t207 = 3 then (if t208 = 0 then ((toruslaw07_is.f k t209 t210 (([1, 3] : List Int))).bind fun t254 => (if t254 = true then ((toruslaw07_is.f k t216 t218 (([1, 2, 3] : List Int))).bind fun t258 => (if t258 = true then (if t217 = (-1) then ((simplex_Cmp.f k (([5] : List Int)) (([0, 1] : List Int))).bind fun t265 => (some (t265 == (-1)))) else (none)) else (none))) else (none))) else (none)) else (none)) else (none))) else (none))) else (none)) else (none))) = some r := by first | (rw [hy224]; with_reducible exact H) | (have H2_ := (Option.bind_some _ _).symm.trans H; rw [hy224]; with_reducible exact H2_) | (have H2_ := (Option.bind_some _ _).symm.trans H; with_reducible exact H2_) | with_reducible exact H | (rw [hy224]; exact H) | exact H
  have Ny224 := Aside0.mk hy224
  clear hy224
  obtain ⟨y227, hy227⟩ : ∃ y_ : List Int, y_ = (([2, 5] : List Int)) := ⟨_, rfl⟩
  replace H : ((torusref07_Same.f k t183 (([y221, y224, y227] : List (List Int)))).bind fun t233 => (if t233 = true then (if t191 = 0 then ((torusref07_Same.f k t190 (([(([2] : List Int)), (([5] : List Int)), (([2, 5] : List Int))] : List (List Int)))).bind fun t246 => (if t246 = true then ((toruslaw07_is.f k t200 t203 (([1, 2, 3] : List Int))).bind fun t250 => (if t250 = true then (if t207 = 3 then (if t208 = 0 then ((toruslaw07_is.f k t209 t210 (([1, 3] : List Int))).bind fun t254 => (if t254 = true then ((toruslaw07_is.f k t216 t218 (([1, 2, 3] : List Int))).bind fun t258 => (if t258 = true then (if t217 = (-1) then ((simplex_Cmp.f k (([5] : List Int)) (([0, 1] : List Int))).bind fun t265 => (some (t265 == (-1)))) else (none)) else (none))) else (none))) else (none)) else (none)) else (none))) else (none))) else (none)) else (none))) = some r := by first | (rw [hy227]; with_reducible exact H) | (have H2_ := (Option.bind_some _ _).symm.trans H; rw [hy227]; with_reducible exact H2_) | (have H2_ := (Option.bind_some _ _).symm.trans H; with_reducible exact H2_) | with_reducible exact H | (rw [hy227]; exact H) | exact H
  have Ny227 := Aside0.mk hy227
  clear hy227
  obtain ⟨y230, hy230⟩ : ∃ y_ : List (List Int), y_ = (([y221, y224, y227] : List (List Int))) := ⟨_, rfl⟩
  replace H : ((torusref07_Same.f k t183 y230).bind fun t233 => (if t233 = true then (if t191 = 0 then ((torusref07_Same.f k t190 (([(([2] : List Int)), (([5] : List Int)), (([2, 5] : List Int))] : List (List Int)))).bind fun t246 => (if t246 = true then ((toruslaw07_is.f k t200 t203 (([1, 2, 3] : List Int))).bind fun t250 => (if t250 = true then (if t207 = 3 then (if t208 = 0 then ((toruslaw07_is.f k t209 t210 (([1, 3] : List Int))).bind fun t254 => (if t254 = true then ((toruslaw07_is.f k t216 t218 (([1, 2, 3] : List Int))).bind fun t258 => (if t258 = true then (if t217 = (-1) then ((simplex_Cmp.f k (([5] : List Int)) (([0, 1] : List Int))).bind fun t265 => (some (t265 == (-1)))) else (none)) else (none))) else (none))) else (none)) else (none)) else (none))) else (none))) else (none)) else (none))) = some r := by first | (rw [hy230]; with_reducible exact H) | (have H2_ := (Option.bind_some _ _).symm.trans H; rw [hy230]; with_reducible exact H2_) | (have H2_ := (Option.bind_some _ _).symm.trans H; with_reducible exact H2_) | with_reducible exact H | (rw [hy230]; exact H) | exact H
  have Ny230 := Aside0.mk hy230
  clear hy230
  replace H := Option.bind_eq_some_iff.mp H
  obtain ⟨t233, A80, H⟩ := H
  have A8 := Aside0.mk A80
  clear A80
  by_cases c9 : t233 = true
  ·subst c9
   rw [if_pos rfl] at H
   by_cases c10 : t191 = 0
   ·rw [if_pos c10] at H
    have c10b0 : (t191 == 0) = true := beq_iff_eq.mpr c10
    have c10b1 : (t191 != 0) = false := bne_eq_false_iff_eq.mpr c10
    clear c10
    obtain ⟨y234, hy234⟩ : ∃ y_ : List Int, y_ = (([2] : List Int)) := ⟨_, rfl⟩
    replace H : ((torusref07_Same.f k t190 (([y234, (([5] : List Int)), (([2, 5] : List Int))] : List (List Int)))).bind fun t246 => (if t246 = true then ((toruslaw07_is.f k t200 t203 (([1, 2, 3] : List Int))).bind fun t250 => (if t250 = true then (if t207 = 3 then (if t208 = 0 then ((toruslaw07_is.f k t209 t210 (([1, 3] : List Int))).bind fun t254 => (if t254 = true then ((toruslaw07_is.f k t216 t218 (([1, 2, 3] : List Int))).bind fun t258 => (if t258 = true then (if t217 = (-1) then ((simplex_Cmp.f k (([5] : List Int)) (([0, 1] : List Int))).bind fun t265 => (some (t265 == (-1)))) else (none)) else (none))) else (none))) else (none)) else (none)) else (none))) else (none))) = some r := by first | (rw [hy234]; with_reducible exact H) | (have H2_ := (Option.bind_some _ _).symm.trans H; rw [hy234]; with_reducible exact H2_) | (have H2_ := (Option.bind_some _ _).symm.trans H; with_reducible exact H2_) | with_reducible exact H | (rw [hy234]; exact H) | exact H
    have Ny234 := Aside0.mk hy234
    clear hy234
    obtain ⟨y237, hy237⟩ : ∃ y_ : List Int, y_ = (([5] : List Int)) := ⟨_, rfl⟩
    replace H : ((torusref07_Same.f k t190 (([y234, y237, (([2, 5] : List Int))] : List (List Int)))).bind fun t246 => (if t246 = true then ((toruslaw07_is.f k t200 t203 (([1, 2, 3] : List Int))).bind fun t250 => (if t250 = true then (if t207 = 3 then (if t208 = 0 then ((toruslaw07_is.f k t209 t210 (([1, 3] : List Int))).bind fun t254 => (if t254 = true then ((toruslaw07_is.f k t216 t218 (([1, 2, 3] : List Int))).bind fun t258 => (if t258 = true then (if t217 = (-1) then ((simplex_Cmp.f k (([5] : List Int)) (([0, 1] : List Int))).bind fun t265 => (some (t265 == (-1)))) else (none)) else (none))) else (none))) else (none)) else (none)) else (none))) else (none))) = some r := by first | (rw [hy237]; with_reducible exact H) | (have H2_ := (Option.bind_some _ _).symm.trans H; rw [hy237]; with_reducible exact H2_) | (have H2_ := (Option.bind_some _ _).symm.trans H; with_reducible exact H2_) | with_reducible exact H | (rw [hy237]; exact H) | exact H
    have Ny237 := Aside0.mk hy237
    clear hy237
    obtain ⟨y240, hy240⟩ : ∃ y_ : List Int, y_ = (([2, 5] : List Int)) := ⟨_, rfl⟩
    replace H : ((torusref07_Same.f k t190 (([y234, y237, y240] : List (List Int)))).bind fun t246 => (if t246 = true then ((toruslaw07_is.f k t200 t203 (([1, 2, 3] : List Int))).bind fun t250 => (if t250 = true then (if t207 = 3 then (if t208 = 0 then ((toruslaw07_is.f k t209 t210 (([1, 3] : List Int))).bind fun t254 => (if t254 = true then ((toruslaw07_is.f k t216 t218 (([1, 2, 3] : List Int))).bind fun t258 => (if t258 = true then (if t217 = (-1) then ((simplex_Cmp.f k (([5] : List Int)) (([0, 1] : List Int))).bind fun t265 => (some (t265 == (-1)))) else (none)) else (none))) else (none))) else (none)) else (none)) else (none))) else (none))) = some r := by first | (rw [hy240]; with_reducible exact H) | (have H2_ := (Option.bind_some _ _).symm.trans H; rw [hy240]; with_reducible exact H2_) | (have H2_ := (Option.bind_some _ _).symm.trans H; with_reducible exact H2_) | with_reducible exact H | (rw [hy240]; exact H) | exact H
    have Ny240 := Aside0.mk hy240
    clear hy240
    obtain ⟨y243, hy243⟩ : ∃ y_ : List (List Int), y_ = (([y234, y237, y240] : List (List Int))) := ⟨_, rfl⟩
    replace H : ((torusref07_Same.f k t190 y243).bind fun t246 => (if t246 = true then ((toruslaw07_is.f k t200 t203 (([1, 2, 3] : List Int))).bind fun t250 => (if t250 = true then (if t207 = 3 then (if t208 = 0 then ((toruslaw07_is.f k t209 t210 (([1, 3] : List Int))).bind fun t254 => (if t254 = true then ((toruslaw07_is.f k t216 t218 (([1, 2, 3] : List Int))).bind fun t258 => (if t258 = true then (if t217 = (-1) then ((simplex_Cmp.f k (([5] : List Int)) (([0, 1] : List Int))).bind fun t265 => (some (t265 == (-1)))) else (none)) else (none))) else (none))) else (none)) else (none)) else (none))) else (none))) = some r := by first | (rw [hy243]; with_reducible exact H) | (have H2_ := (Option.bind_some _ _).symm.trans H; rw [hy243]; with_reducible exact H2_) | (have H2_ := (Option.bind_some _ _).symm.trans H; with_reducible exact H2_) | with_reducible exact H | (rw [hy243]; exact H) | exact H
    have Ny243 := Aside0.mk hy243
    clear hy243
    replace H := Option.bind_eq_some_iff.mp H
    obtain ⟨t246, A110, H⟩ := H
    have A11 := Aside0.mk A110
    clear A110
    by_cases c12 : t246 = true
    ·subst c12
     rw [if_pos rfl] at H
     obtain ⟨y247, hy247⟩ : ∃ y_ : List Int, y_ = (([1, 2, 3] : List Int)) := ⟨_, rfl⟩
     replace H : ((toruslaw07_is.f k t200 t203 y247).bind fun t250 => (if t250 = true then (if t207 = 3 then (if t208 = 0 then ((toruslaw07_is.f k t209 t210 (([1, 3] : List Int))).bind fun t254 => (if t254 = true then ((toruslaw07_is.f k t216 t218 (([1, 2, 3] : List Int))).bind fun t258 => (if t258 = true then (if t217 = (-1) then ((simplex_Cmp.f k (([5] : List Int)) (([0, 1] : List Int))).bind fun t265 => (some (t265 == (-1)))) else (none)) else (none))) else (none))) else (none)) else (none)) else (none))) = some r := by first | (rw [hy247]; with_reducible exact H) | (have H2_ := (Option.bind_some _ _).symm.trans H; rw [hy247]; with_reducible exact H2_) | (have H2_ := (Option.bind_some _ _).symm.trans H; with_reducible exact H2_) | with_reducible exact H | (rw [hy247]; exact H) | exact H
     have Ny247 := Aside0.mk hy247
     clear hy247
     replace H := Option.bind_eq_some_iff.mp H
     obtain ⟨t250, A130, H⟩ := H
     have A13 := Aside0.mk A130
     clear A130
     by_cases c14 : t250 = true
     ·subst c14
      rw [if_pos rfl] at H
      by_cases c15 : t207 = 3
      ·rw [if_pos c15] at H
       have c15b0 : (t207 == 3) = true := beq_iff_eq.mpr c15
       have c15b1 : (t207 != 3) = false := bne_eq_false_iff_eq.mpr c15
       clear c15
       by_cases c16 : t208 = 0
       ·rw [if_pos c16] at H
        have c16b0 : (t208 == 0) = true := beq_iff_eq.mpr c16
        have c16b1 : (t208 != 0) = false := bne_eq_false_iff_eq.mpr c16
        clear c16
        obtain ⟨y251, hy251⟩ : ∃ y_ : List Int, y_ = (([1, 3] : List Int)) := ⟨_, rfl⟩
        replace H : ((toruslaw07_is.f k t209 t210 y251).bind fun t254 => (if t254 = true then ((toruslaw07_is.f k t216 t218 (([1, 2, 3] : List Int))).bind fun t258 => (if t258 = true then (if t217 = (-1) then ((simplex_Cmp.f k (([5] : List Int)) (([0, 1] : List Int))).bind fun t265 => (some (t265 == (-1)))) else (none)) else (none))) else (none))) = some r := by first | (rw [hy251]; with_reducible exact H) | (have H2_ := (Option.bind_some _ _).symm.trans H; rw [hy251]; with_reducible exact H2_) | (have H2_ := (Option.bind_some _ _).symm.trans H; with_reducible exact H2_) | with_reducible exact H | (rw [hy251]; exact H) | exact H
        have Ny251 := Aside0.mk hy251
        clear hy251
        replace H := Option.bind_eq_some_iff.mp H
        obtain ⟨t254, A170, H⟩ := H
        have A17 := Aside0.mk A170
        clear A170
        by_cases c18 : t254 = true
        ·subst c18
         rw [if_pos rfl] at H
         obtain ⟨y255, hy255⟩ : ∃ y_ : List Int, y_ = (([1, 2, 3] : List Int)) := ⟨_, rfl⟩
         replace H : ((toruslaw07_is.f k t216 t218 y255).bind fun t258 => (if t258 = true then (if t217 = (-1) then ((simplex_Cmp.f k (([5] : List Int)) (([0, 1] : List Int))).bind fun t265 => (some (t265 == (-1)))) else (none)) else (none))) = some r := by first | (rw [hy255]; with_reducible exact H) | (have H2_ := (Option.bind_some _ _).symm.trans H; rw [hy255]; with_reducible exact H2_) | (have H2_ := (Option.bind_some _ _).symm.trans H; with_reducible exact H2_) | with_reducible exact H | (rw [hy255]; exact H) | exact H
         have Ny255 := Aside0.mk hy255
         clear hy255
         replace H := Option.bind_eq_some_iff.mp H
         obtain ⟨t258, A190, H⟩ := H
         have A19 := Aside0.mk A190
         clear A190
         by_cases c20 : t258 = true
         ·subst c20
          rw [if_pos rfl] at H
          by_cases c21 : t217 = (-1)
          ·rw [if_pos c21] at H
           have c21b0 : (t217 == (-1)) = true := beq_iff_eq.mpr c21
           have c21b1 : (t217 != (-1)) = false := bne_eq_false_iff_eq.mpr c21
           clear c21
           obtain ⟨y259, hy259⟩ : ∃ y_ : List Int, y_ = (([5] : List Int)) := ⟨_, rfl⟩
           replace H : ((simplex_Cmp.f k y259 (([0, 1] : List Int))).bind fun t265 => (some (t265 == (-1)))) = some r := by first | (rw [hy259]; with_reducible exact H) | (have H2_ := (Option.bind_some _ _).symm.trans H; rw [hy259]; with_reducible exact H2_) | (have H2_ := (Option.bind_some _ _).symm.trans H; with_reducible exact H2_) | with_reducible exact H | (rw [hy259]; exact H) | exact H
           have Ny259 := Aside0.mk hy259
           clear hy259
           obtain ⟨y262, hy262⟩ : ∃ y_ : List Int, y_ = (([0, 1] : List Int)) := ⟨_, rfl⟩
           replace H : ((simplex_Cmp.f k y259 y262).bind fun t265 => (some (t265 == (-1)))) = some r := by first | (rw [hy262]; with_reducible exact H) | (have H2_ := (Option.bind_some _ _).symm.trans H; rw [hy262]; with_reducible exact H2_) | (have H2_ := (Option.bind_some _ _).symm.trans H; with_reducible exact H2_) | with_reducible exact H | (rw [hy262]; exact H) | exact H
           have Ny262 := Aside0.mk hy262
           clear hy262
           replace H := Option.bind_eq_some_iff.mp H
           obtain ⟨t265, A220, H⟩ := H
           have A22 := Aside0.mk A220
           clear A220
           obtain rfl := Option.some.inj H
           go_enter Tryd.func12, Tryd.ntmps12
           go_wp2_with (first | ((with_reducible refine gate_dst (N := 15) rfl ?_); (try (refine gate_guard (by rfl) ?_; dsimp only)); refine Kd.R_lit (Kd.int .i64) _ 3 ?hg (N := 15) ?hd (xs := ([2, 5, 7] : List Int)) (inner := [.int .i64 2, .int .i64 5, .int .i64 7]) (ok := fun _ => True) (okp := fun _ => True) ?hr ?hp (fun _ hk => hk) trivial (Below.refl _ _) (Nat.le_refl _) (by simp) ?_; (case hd => rfl); (case hg => rfl); (case hr => first | (go_simp; done) | (go_simp; rfl)); (case hp => exact (Reps.one (show Kd.M (Kd.int .i64) _ _ _ 2 [.int .i64 2] from rfl) (Reps.one (show Kd.M (Kd.int .i64) _ _ _ 5 [.int .i64 5] from rfl) (Reps.one (show Kd.M (Kd.int .i64) _ _ _ 7 [.int .i64 7] from rfl) (Reps.none _ _))))); intro v181 w23 ho24 hb hg_ hnew_; clear hg_ hnew_; (first | rw [← Ny180.out] at ho24 | (simp only [Int.reduceToNat] at ho24; rw [← Ny180.out] at ho24)); have n0_ := Aside0.mk (Kd.R_lower ho24 (below_size bw_)); have n1_ := Aside0.mk (below_step bw_ hb); clear HB; have HO182 := n0_; have HB := n1_; clear n0_ n1_; clear hb ho24; obtain ⟨Ao25, co25, eo25⟩ := Kd.R_slice HO182.out; subst eo25) | ((with_reducible refine gate_callee (f := 33) rfl ?_); refine goesL_ (some 16) rfl rfl Tryd.func33 (by kernel_rfl) rfl #[.slice Ao25 y180.length co25] rfl ag_ ?_; (with_reducible refine (simplex_Facets.calls k _ _ y180 t183 t184 _ ?side1 ?side2 A1.out).mono ?_); (case side1 => repeat (first | exact (Kd.R_reads' HO182.out).2.2 | (with_reducible refine Kd.C_alloc ?_ _) | (with_reducible refine Kd.C_drewN ?_ _) | (with_reducible refine Kd.C_drew ?_))); (case side2 => exact (Kd.R_reads' HO182.out).2.1); rintro e w26 ⟨v185, rfl, ho0, hb⟩; refine ⟨_, rfl, ?_⟩; have n0_ := Aside0.mk (Kd.R_below (rRa_ HO182.out) hb); have n1_ := Aside0.mk (Kd.N_lower (Kd.N_mono (ok' := fun k_ => some k_ ≠ (.slice Ao25 y180.length co25 : Value).ownBlock) (Kd.S_N (Kd.S_bound ho0)) (fun k_ hk_ => (Kd.fresh' (Kd.R_lt (rRa_ HO182.out)) k_ hk_.2.1))) (below_size bw_)); have n2_ := Aside0.mk (below_step bw_ hb); clear HO182; clear HB; have HO182 := n0_; have HO186 := n1_; have HB := n2_; clear n0_ n1_ n2_; (try clear hb); (try clear hb2); (try clear hk); (try clear hi); (try clear ho0)) | ((with_reducible refine gate_dst (N := 20) rfl ?_); (try (refine gate_guard (by rfl) ?_; dsimp only)); refine Kd.R_lit (Kd.int .i64) _ 3 ?hg (N := 20) ?hd (xs := ([2, 5] : List Int)) (inner := [.int .i64 2, .int .i64 5]) (ok := fun _ => True) (okp := fun _ => True) ?hr ?hp (fun _ hk => hk) trivial (Below.refl _ _) (Nat.le_refl _) (by simp) ?_; (case hd => rfl); (case hg => rfl); (case hr => first | (go_simp; done) | (go_simp; rfl)); (case hp => exact (Reps.one (show Kd.M (Kd.int .i64) _ _ _ 2 [.int .i64 2] from rfl) (Reps.one (show Kd.M (Kd.int .i64) _ _ _ 5 [.int .i64 5] from rfl) (Reps.none _ _)))); intro v188 w27 ho28 hb hg_ hnew_; clear hg_ hnew_; (first | rw [← Ny187.out] at ho28 | (simp only [Int.reduceToNat] at ho28; rw [← Ny187.out] at ho28)); have n0_ := Aside0.mk (Kd.R_elder' (rRa_ HO182.out) (Kd.R_base ho28) hb); have n1_ := Aside0.mk (Kd.N_elder' (rNa_ HO186.out) (Kd.R_base ho28) hb); have n2_ := Aside0.mk (Kd.R_lower (Kd.R_new' ho28 (Kd.R_lt (rRa_ HO182.out))) (below_size bw_)); have n3_ := Aside0.mk (below_step bw_ hb); clear HO182; clear HO186; clear HB; have HO182 := n0_; have HO186 := n1_; have HO189 := n2_; have HB := n3_; clear n0_ n1_ n2_ n3_; clear hb ho28; have n_ := Aside0.mk (Kd.N_mono (ok' := (fun k_ => some k_ ≠ (v188 : Value).ownBlock)) HO186.out (fun k_ hk => hk.2)); clear HO186; have HO186 := n_; clear n_; have n_ := Aside0.mk (Kd.R_mono (ok' := (fun _ => True)) HO189.out (fun k_ hk => trivial)); clear HO189; have HO189 := n_; clear n_; (try clear HO182); obtain ⟨Ao29, co29, eo29⟩ := Kd.R_slice HO189.out; subst eo29) | ((with_reducible refine gate_callee (f := 34) rfl ?_); refine goesL_ (some 21) rfl rfl Tryd.func34 (by kernel_rfl) rfl #[.slice Ao29 y187.length co29] rfl ag_ ?_; (with_reducible refine (simplex_Faces.calls k _ _ y187 t190 t191 _ ?side1 ?side2 A2.out).mono ?_); (case side1 => repeat (first | exact (Kd.R_reads' HO189.out).2.2 | (with_reducible refine Kd.C_alloc ?_ _) | (with_reducible refine Kd.C_drewN ?_ _) | (with_reducible refine Kd.C_drew ?_))); (case side2 => exact (Kd.R_reads' HO189.out).2.1); rintro e w30 ⟨v192, rfl, ho0, hb⟩; refine ⟨_, rfl, ?_⟩; have n0_ := Aside0.mk (Kd.N_elder' (rNa_ HO186.out) (by first | exact Kd.N_base ho0 | exact Kd.S_base ho0) hb); have n1_ := Aside0.mk (Kd.R_below (rRa_ HO189.out) hb); have n2_ := Aside0.mk (Kd.N_lower (Kd.N_mono (ok' := fun k_ => some k_ ≠ (v185 : Value).ownBlock ∧ some k_ ≠ (.slice Ao29 y187.length co29 : Value).ownBlock) (Kd.S_N (Kd.S_bound ho0)) (fun k_ hk_ => ⟨(Kd.fresh' (Kd.N_lt (rNa_ HO186.out)) k_ hk_.2.1), (Kd.fresh' (Kd.R_lt (rRa_ HO189.out)) k_ hk_.2.1)⟩)) (below_size bw_)); have n3_ := Aside0.mk (below_step bw_ hb); clear HO186; clear HO189; clear HB; have HO186 := n0_; have HO189 := n1_; have HO193 := n2_; have HB := n3_; clear n0_ n1_ n2_ n3_; (try clear hb); (try clear hb2); (try clear hk); (try clear hi); (try clear ho0)) | ((with_reducible refine gate_dst (N := 25) rfl ?_); (try (refine gate_guard (by rfl) ?_; dsimp only)); refine Kd.R_lit (Kd.int .i64) _ 3 ?hg (N := 25) ?hd (xs := ([1, 3] : List Int)) (inner := [.int .i64 1, .int .i64 3]) (ok := fun _ => True) (okp := fun _ => True) ?hr ?hp (fun _ hk => hk) trivial (Below.refl _ _) (Nat.le_refl _) (by simp) ?_; (case hd => rfl); (case hg => rfl); (case hr => first | (go_simp; done) | (go_simp; rfl)); (case hp => exact (Reps.one (show Kd.M (Kd.int .i64) _ _ _ 1 [.int .i64 1] from rfl) (Reps.one (show Kd.M (Kd.int .i64) _ _ _ 3 [.int .i64 3] from rfl) (Reps.none _ _)))); intro v195 w31 ho32 hb hg_ hnew_; clear hg_ hnew_; (first | rw [← Ny194.out] at ho32 | (simp only [Int.reduceToNat] at ho32; rw [← Ny194.out] at ho32)); have n0_ := Aside0.mk (Kd.N_elder' (rNa_ HO186.out) (Kd.R_base ho32) hb); have n1_ := Aside0.mk (Kd.R_elder' (rRa_ HO189.out) (Kd.R_base ho32) hb); have n2_ := Aside0.mk (Kd.N_elder' (rNa_ HO193.out) (Kd.R_base ho32) hb); have n3_ := Aside0.mk (Kd.R_lower (Kd.R_new' ho32 (Kd.R_lt (rRa_ HO189.out))) (below_size bw_)); have n4_ := Aside0.mk (below_step bw_ hb); clear HO186; clear HO189; clear HO193; clear HB; have HO186 := n0_; have HO189 := n1_; have HO193 := n2_; have HO196 := n3_; have HB := n4_; clear n0_ n1_ n2_ n3_ n4_; clear hb ho32) | ((with_reducible refine gate_dst (N := 26) rfl ?_); (try (refine gate_guard (by rfl) ?_; dsimp only)); refine Kd.R_lit (Kd.int .i64) _ 3 ?hg (N := 26) ?hd (xs := ([2] : List Int)) (inner := [.int .i64 2]) (ok := fun _ => True) (okp := fun _ => True) ?hr ?hp (fun _ hk => hk) trivial (Below.refl _ _) (Nat.le_refl _) (by simp) ?_; (case hd => rfl); (case hg => rfl); (case hr => first | (go_simp; done) | (go_simp; rfl)); (case hp => exact (Reps.one (show Kd.M (Kd.int .i64) _ _ _ 2 [.int .i64 2] from rfl) (Reps.none _ _))); intro v198 w33 ho34 hb hg_ hnew_; clear hg_ hnew_; (first | rw [← Ny197.out] at ho34 | (simp only [Int.reduceToNat] at ho34; rw [← Ny197.out] at ho34)); have n0_ := Aside0.mk (Kd.N_elder' (rNa_ HO186.out) (Kd.R_base ho34) hb); have n1_ := Aside0.mk (Kd.R_elder' (rRa_ HO189.out) (Kd.R_base ho34) hb); have n2_ := Aside0.mk (Kd.N_elder' (rNa_ HO193.out) (Kd.R_base ho34) hb); have n3_ := Aside0.mk (Kd.R_elder' (rRa_ HO196.out) (Kd.R_base ho34) hb); have n4_ := Aside0.mk (Kd.R_lower (Kd.R_new' (Kd.R_new' ho34 (Kd.R_lt (rRa_ HO189.out))) (Kd.R_lt (rRa_ HO196.out))) (below_size bw_)); have n5_ := Aside0.mk (below_step bw_ hb); clear HO186; clear HO189; clear HO193; clear HO196; clear HB; have HO186 := n0_; have HO189 := n1_; have HO193 := n2_; have HO196 := n3_; have HO199 := n4_; have HB := n5_; clear n0_ n1_ n2_ n3_ n4_ n5_; clear hb ho34; have n_ := Aside0.mk (Kd.N_mono (ok' := (fun k_ => some k_ ≠ (v192 : Value).ownBlock ∧ some k_ ≠ (v195 : Value).ownBlock ∧ some k_ ≠ (v198 : Value).ownBlock)) HO186.out (fun k_ hk => ⟨hk.1.1.2, ⟨hk.1.2, hk.2⟩⟩)); clear HO186; have HO186 := n_; clear n_; have n_ := Aside0.mk (Kd.N_mono (ok' := (fun k_ => some k_ ≠ (v185 : Value).ownBlock ∧ some k_ ≠ (v195 : Value).ownBlock ∧ some k_ ≠ (v198 : Value).ownBlock)) HO193.out (fun k_ hk => ⟨hk.1.1.1, ⟨hk.1.2, hk.2⟩⟩)); clear HO193; have HO193 := n_; clear n_; have n_ := Aside0.mk (Kd.R_mono (ok' := (fun k_ => some k_ ≠ (v198 : Value).ownBlock)) HO196.out (fun k_ hk => hk.2)); clear HO196; have HO196 := n_; clear n_; have n_ := Aside0.mk (Kd.R_mono (ok' := (fun k_ => some k_ ≠ (v195 : Value).ownBlock)) HO199.out (fun k_ hk => hk.2)); clear HO199; have HO199 := n_; clear n_; (try clear HO189); obtain ⟨Ao35, co35, eo35⟩ := Kd.R_slice HO196.out; subst eo35; obtain ⟨Ao36, co36, eo36⟩ := Kd.R_slice HO199.out; subst eo36) | ((with_reducible refine gate_callee (f := 36) rfl ?_); refine goesL_ (some 27) rfl rfl Tryd.func36 (by kernel_rfl) rfl #[.slice Ao35 y194.length co35, .slice Ao36 y197.length co36] rfl ag_ ?_; (with_reducible refine (simplex_Join.calls k (fun k_ => some k_ = (.slice Ao35 y194.length co35 : Value).ownBlock) _ _ y194 (fun k_ => some k_ = (.slice Ao36 y197.length co36 : Value).ownBlock) _ _ y197 t200 t203 _ ?side1 ?side2 A3.out).mono ?_); (case side1 => exact Kd.R_V (Kd.R_tight rfl (Kd.R_apart' (Kd.R_apart' (HO196.out) (Kd.N_typed HO186.out) (by decide)) (Kd.N_typed HO193.out) (by decide)))); (case side2 => exact Kd.R_V (Kd.R_tight rfl (Kd.R_apart' (Kd.R_apart' (HO199.out) (Kd.N_typed HO186.out) (by decide)) (Kd.N_typed HO193.out) (by decide)))); rintro e w37 ⟨v201, rfl, ho0, hb⟩; refine ⟨_, rfl, ?_⟩; have n0_ := Aside0.mk (Kd.N_elder' (rNa_ HO186.out) (Kd.R_base ho0) hb); have n1_ := Aside0.mk (Kd.N_elder' (rNa_ HO193.out) (Kd.R_base ho0) hb); have n2_ := Aside0.mk (Kd.R_elder' (rRa_ HO196.out) (Kd.R_base ho0) hb); have n3_ := Aside0.mk (Kd.R_elder' (rRa_ HO199.out) (Kd.R_base ho0) hb); have n4_ := Aside0.mk (Kd.R_lower (Kd.R_new' (Kd.R_new' (Kd.R_mono (ok' := fun k_ => True) ho0 (fun _ hk_ => trivial)) (Kd.R_lt (rRa_ HO196.out))) (Kd.R_lt (rRa_ HO199.out))) (below_size bw_)); have n5_ := Aside0.mk (below_step bw_ hb); clear HO186; clear HO193; clear HO196; clear HO199; clear HB; have HO186 := n0_; have HO193 := n1_; have HO196 := n2_; have HO199 := n3_; have HO202 := n4_; have HB := n5_; clear n0_ n1_ n2_ n3_ n4_ n5_; (try clear hb); (try clear hb2); (try clear hk); (try clear hi); (try clear ho0)) | ((with_reducible refine gate_dst (N := 31) rfl ?_); (try (refine gate_guard (by rfl) ?_; dsimp only)); refine Kd.R_lit (Kd.int .i64) _ 3 ?hg (N := 31) ?hd (xs := ([0, 3] : List Int)) (inner := [.int .i64 0, .int .i64 3]) (ok := fun _ => True) (okp := fun _ => True) ?hr ?hp (fun _ hk => hk) trivial (Below.refl _ _) (Nat.le_refl _) (by simp) ?_; (case hd => rfl); (case hg => rfl); (case hr => first | (go_simp; done) | (go_simp; rfl)); (case hp => exact (Reps.one (show Kd.M (Kd.int .i64) _ _ _ 0 [.int .i64 0] from rfl) (Reps.one (show Kd.M (Kd.int .i64) _ _ _ 3 [.int .i64 3] from rfl) (Reps.none _ _)))); intro v205 w38 ho39 hb hg_ hnew_; clear hg_ hnew_; (first | rw [← Ny204.out] at ho39 | (simp only [Int.reduceToNat] at ho39; rw [← Ny204.out] at ho39)); have n0_ := Aside0.mk (Kd.N_elder' (rNa_ HO186.out) (Kd.R_base ho39) hb); have n1_ := Aside0.mk (Kd.N_elder' (rNa_ HO193.out) (Kd.R_base ho39) hb); have n2_ := Aside0.mk (Kd.R_elder' (rRa_ HO196.out) (Kd.R_base ho39) hb); have n3_ := Aside0.mk (Kd.R_elder' (rRa_ HO199.out) (Kd.R_base ho39) hb); have n4_ := Aside0.mk (Kd.R_elder' (rRa_ HO202.out) (Kd.R_base ho39) hb); have n5_ := Aside0.mk (Kd.R_lower (Kd.R_new' (Kd.R_new' (Kd.R_new' ho39 (Kd.R_lt (rRa_ HO196.out))) (Kd.R_lt (rRa_ HO199.out))) (Kd.R_lt (rRa_ HO202.out))) (below_size bw_)); have n6_ := Aside0.mk (below_step bw_ hb); clear HO186; clear HO193; clear HO196; clear HO199; clear HO202; clear HB; have HO186 := n0_; have HO193 := n1_; have HO196 := n2_; have HO199 := n3_; have HO202 := n4_; have HO206 := n5_; have HB := n6_; clear n0_ n1_ n2_ n3_ n4_ n5_ n6_; clear hb ho39; have n_ := Aside0.mk (Kd.N_mono (ok' := (fun k_ => some k_ ≠ (v192 : Value).ownBlock ∧ some k_ ≠ (v201 : Value).ownBlock ∧ some k_ ≠ (v205 : Value).ownBlock)) HO186.out (fun k_ hk => ⟨hk.1.1.1, ⟨hk.1.2, hk.2⟩⟩)); clear HO186; have HO186 := n_; clear n_; have n_ := Aside0.mk (Kd.N_mono (ok' := (fun k_ => some k_ ≠ (v185 : Value).ownBlock ∧ some k_ ≠ (v201 : Value).ownBlock ∧ some k_ ≠ (v205 : Value).ownBlock)) HO193.out (fun k_ hk => ⟨hk.1.1.1, ⟨hk.1.2, hk.2⟩⟩)); clear HO193; have HO193 := n_; clear n_; have n_ := Aside0.mk (Kd.R_mono (ok' := (fun k_ => some k_ ≠ (v205 : Value).ownBlock)) HO202.out (fun k_ hk => hk.2)); clear HO202; have HO202 := n_; clear n_; have n_ := Aside0.mk (Kd.R_mono (ok' := (fun k_ => some k_ ≠ (v201 : Value).ownBlock)) HO206.out (fun k_ hk => hk.2)); clear HO206; have HO206 := n_; clear n_; (try clear HO196); (try clear HO199); obtain ⟨Ao40, co40, eo40⟩ := Kd.R_slice HO206.out; subst eo40) | ((with_reducible refine gate_callee (f := 13) rfl ?_); refine goesL_ (some 32) rfl rfl Tryd.func13 (by kernel_rfl) rfl #[.slice Ao40 y204.length co40] rfl ag_ ?_; (with_reducible refine (simplex_Number.calls k _ _ y204 t207 t208 _ ?side1 ?side2 ?side3 A4.out).mono ?_); (case side1 => repeat (first | exact (Kd.R_reads' HO206.out).2.2 | (with_reducible refine Kd.C_alloc ?_ _) | (with_reducible refine Kd.C_drewN ?_ _) | (with_reducible refine Kd.C_drew ?_))); (case side2 => exact (Kd.R_reads' HO206.out).2.1); (case side3 => first | exact hg | exact ⟨Glob.below hg.out bw_⟩); rintro e w41 ⟨rfl, hb⟩; refine ⟨_, rfl, ?_⟩; have n0_ := Aside0.mk (Kd.N_below (rNa_ HO186.out) hb); have n1_ := Aside0.mk (Kd.N_below (rNa_ HO193.out) hb); have n2_ := Aside0.mk (Kd.R_below (rRa_ HO202.out) hb); have n3_ := Aside0.mk (Kd.R_below (rRa_ HO206.out) hb); have n4_ := Aside0.mk (below_step bw_ hb); clear HO186; clear HO193; clear HO202; clear HO206; clear HB; have HO186 := n0_; have HO193 := n1_; have HO202 := n2_; have HO206 := n3_; have HB := n4_; clear n0_ n1_ n2_ n3_ n4_; (try clear hb); (try clear hb2); (try clear hk); (try clear hi); have n_ := Aside0.mk (Kd.N_mono (ok' := (fun k_ => some k_ ≠ (v192 : Value).ownBlock ∧ some k_ ≠ (v201 : Value).ownBlock)) HO186.out (fun k_ hk => ⟨hk.1, hk.2.1⟩)); clear HO186; have HO186 := n_; clear n_; have n_ := Aside0.mk (Kd.N_mono (ok' := (fun k_ => some k_ ≠ (v185 : Value).ownBlock ∧ some k_ ≠ (v201 : Value).ownBlock)) HO193.out (fun k_ hk => ⟨hk.1, hk.2.1⟩)); clear HO193; have HO193 := n_; clear n_; have n_ := Aside0.mk (Kd.R_mono (ok' := (fun _ => True)) HO202.out (fun k_ hk => trivial)); clear HO202; have HO202 := n_; clear n_; (try clear HO206)) | ((with_reducible refine gate_callee (f := 15) rfl ?_); refine goesL_ (some 36) rfl rfl Tryd.func15 (by kernel_rfl) rfl #[.int .i64 1, .int .i64 4] rfl ag_ ?_; (with_reducible refine (simplex_Numbered.calls k 1 4 t209 t210 _ ?side1 A5.out).mono ?_); (case side1 => first | exact hg | exact ⟨Glob.below hg.out bw_⟩); rintro e w42 ⟨v211, rfl, ho0, hb⟩; refine ⟨_, rfl, ?_⟩; have n0_ := Aside0.mk (Kd.N_elder' (rNa_ HO186.out) (Kd.R_base ho0) hb); have n1_ := Aside0.mk (Kd.N_elder' (rNa_ HO193.out) (Kd.R_base ho0) hb); have n2_ := Aside0.mk (Kd.R_elder' (rRa_ HO202.out) (Kd.R_base ho0) hb); have n3_ := Aside0.mk (Kd.R_lower (Kd.R_new' ho0 (Kd.R_lt (rRa_ HO202.out))) (below_size bw_)); have n4_ := Aside0.mk (below_step bw_ hb); clear HO186; clear HO193; clear HO202; clear HB; have HO186 := n0_; have HO193 := n1_; have HO202 := n2_; have HO212 := n3_; have HB := n4_; clear n0_ n1_ n2_ n3_ n4_; (try clear hb); (try clear hb2); (try clear hk); (try clear hi); (try clear ho0)) | ((with_reducible refine gate_dst (N := 40) rfl ?_); (try (refine gate_guard (by rfl) ?_; dsimp only)); refine Kd.R_lit (Kd.int .i64) _ 3 ?hg (N := 40) ?hd (xs := ([1, 3, 2] : List Int)) (inner := [.int .i64 1, .int .i64 3, .int .i64 2]) (ok := fun _ => True) (okp := fun _ => True) ?hr ?hp (fun _ hk => hk) trivial (Below.refl _ _) (Nat.le_refl _) (by simp) ?_; (case hd => rfl); (case hg => rfl); (case hr => first | (go_simp; done) | (go_simp; rfl)); (case hp => exact (Reps.one (show Kd.M (Kd.int .i64) _ _ _ 1 [.int .i64 1] from rfl) (Reps.one (show Kd.M (Kd.int .i64) _ _ _ 3 [.int .i64 3] from rfl) (Reps.one (show Kd.M (Kd.int .i64) _ _ _ 2 [.int .i64 2] from rfl) (Reps.none _ _))))); intro v214 w43 ho44 hb hg_ hnew_; clear hg_ hnew_; (first | rw [← Ny213.out] at ho44 | (simp only [Int.reduceToNat] at ho44; rw [← Ny213.out] at ho44)); have n0_ := Aside0.mk (Kd.N_elder' (rNa_ HO186.out) (Kd.R_base ho44) hb); have n1_ := Aside0.mk (Kd.N_elder' (rNa_ HO193.out) (Kd.R_base ho44) hb); have n2_ := Aside0.mk (Kd.R_elder' (rRa_ HO202.out) (Kd.R_base ho44) hb); have n3_ := Aside0.mk (Kd.R_elder' (rRa_ HO212.out) (Kd.R_base ho44) hb); have n4_ := Aside0.mk (Kd.R_lower (Kd.R_new' (Kd.R_new' ho44 (Kd.R_lt (rRa_ HO202.out))) (Kd.R_lt (rRa_ HO212.out))) (below_size bw_)); have n5_ := Aside0.mk (below_step bw_ hb); clear HO186; clear HO193; clear HO202; clear HO212; clear HB; have HO186 := n0_; have HO193 := n1_; have HO202 := n2_; have HO212 := n3_; have HO215 := n4_; have HB := n5_; clear n0_ n1_ n2_ n3_ n4_ n5_; clear hb ho44; obtain ⟨Ao45, co45, eo45⟩ := Kd.R_slice HO215.out; subst eo45) | ((with_reducible refine gate_callee (f := 18) rfl ?_); refine goesL_ (some 41) rfl rfl Tryd.func18 (by kernel_rfl) rfl #[.slice Ao45 y213.length co45] rfl ag_ ?_; (with_reducible refine (simplex_Sort.calls k _ _ y213 t216 t217 t218 _ ?side1 ?side2 A6.out).mono ?_); (case side1 => repeat (first | exact (Kd.R_reads' HO215.out).2.2 | (with_reducible refine Kd.C_alloc ?_ _) | (with_reducible refine Kd.C_drewN ?_ _) | (with_reducible refine Kd.C_drew ?_))); (case side2 => exact (Kd.R_reads' HO215.out).2.1); rintro e w46 ⟨v219, rfl, ho0, hb⟩; refine ⟨_, rfl, ?_⟩; have n0_ := Aside0.mk (Kd.N_elder' (rNa_ HO186.out) (Kd.R_base ho0) hb); have n1_ := Aside0.mk (Kd.N_elder' (rNa_ HO193.out) (Kd.R_base ho0) hb); have n2_ := Aside0.mk (Kd.R_elder' (rRa_ HO202.out) (Kd.R_base ho0) hb); have n3_ := Aside0.mk (Kd.R_elder' (rRa_ HO212.out) (Kd.R_base ho0) hb); have n4_ := Aside0.mk (Kd.R_elder' (rRa_ HO215.out) (Kd.R_base ho0) hb); have n5_ := Aside0.mk (Kd.R_lower (Kd.R_new' (Kd.R_new' (Kd.R_new' ho0 (Kd.R_lt (rRa_ HO202.out))) (Kd.R_lt (rRa_ HO212.out))) (Kd.R_lt (rRa_ HO215.out))) (below_size bw_)); have n6_ := Aside0.mk (below_step bw_ hb); clear HO186; clear HO193; clear HO202; clear HO212; clear HO215; clear HB; have HO186 := n0_; have HO193 := n1_; have HO202 := n2_; have HO212 := n3_; have HO215 := n4_; have HO220 := n5_; have HB := n6_; clear n0_ n1_ n2_ n3_ n4_ n5_ n6_; (try clear hb); (try clear hb2); (try clear hk); (try clear hi); (try clear ho0)) | ((with_reducible refine gate_dst (N := 49) rfl ?_); (try (refine gate_guard (by rfl) ?_; dsimp only)); refine Kd.R_lit (Kd.int .i64) _ 3 ?hg (N := 49) ?hd (xs := ([5, 7] : List Int)) (inner := [.int .i64 5, .int .i64 7]) (ok := fun _ => True) (okp := fun _ => True) ?hr ?hp (fun _ hk => hk) trivial (Below.refl _ _) (Nat.le_refl _) (by simp) ?_; (case hd => rfl); (case hg => rfl); (case hr => first | (go_simp; done) | (go_simp; rfl)); (case hp => exact (Reps.one (show Kd.M (Kd.int .i64) _ _ _ 5 [.int .i64 5] from rfl) (Reps.one (show Kd.M (Kd.int .i64) _ _ _ 7 [.int .i64 7] from rfl) (Reps.none _ _)))); intro v222 w47 ho48 hb hg_ hnew_; clear hg_ hnew_; (first | rw [← Ny221.out] at ho48 | (simp only [Int.reduceToNat] at ho48; rw [← Ny221.out] at ho48)); have n0_ := Aside0.mk (Kd.N_elder' (rNa_ HO186.out) (Kd.R_base ho48) hb); have n1_ := Aside0.mk (Kd.N_elder' (rNa_ HO193.out) (Kd.R_base ho48) hb); have n2_ := Aside0.mk (Kd.R_elder' (rRa_ HO202.out) (Kd.R_base ho48) hb); have n3_ := Aside0.mk (Kd.R_elder' (rRa_ HO212.out) (Kd.R_base ho48) hb); have n4_ := Aside0.mk (Kd.R_elder' (rRa_ HO215.out) (Kd.R_base ho48) hb); have n5_ := Aside0.mk (Kd.R_elder' (rRa_ HO220.out) (Kd.R_base ho48) hb); have n6_ := Aside0.mk (Kd.R_lower (Kd.R_new' (Kd.R_new' (Kd.R_new' (Kd.R_new' ho48 (Kd.R_lt (rRa_ HO202.out))) (Kd.R_lt (rRa_ HO212.out))) (Kd.R_lt (rRa_ HO215.out))) (Kd.R_lt (rRa_ HO220.out))) (below_size bw_)); have n7_ := Aside0.mk (below_step bw_ hb); clear HO186; clear HO193; clear HO202; clear HO212; clear HO215; clear HO220; clear HB; have HO186 := n0_; have HO193 := n1_; have HO202 := n2_; have HO212 := n3_; have HO215 := n4_; have HO220 := n5_; have HO223 := n6_; have HB := n7_; clear n0_ n1_ n2_ n3_ n4_ n5_ n6_ n7_; clear hb ho48) | ((with_reducible refine gate_dst (N := 50) rfl ?_); (try (refine gate_guard (by rfl) ?_; dsimp only)); refine Kd.R_lit (Kd.int .i64) _ 3 ?hg (N := 50) ?hd (xs := ([2, 7] : List Int)) (inner := [.int .i64 2, .int .i64 7]) (ok := fun _ => True) (okp := fun _ => True) ?hr ?hp (fun _ hk => hk) trivial (Below.refl _ _) (Nat.le_refl _) (by simp) ?_; (case hd => rfl); (case hg => rfl); (case hr => first | (go_simp; done) | (go_simp; rfl)); (case hp => exact (Reps.one (show Kd.M (Kd.int .i64) _ _ _ 2 [.int .i64 2] from rfl) (Reps.one (show Kd.M (Kd.int .i64) _ _ _ 7 [.int .i64 7] from rfl) (Reps.none _ _)))); intro v225 w49 ho50 hb hg_ hnew_; clear hg_ hnew_; (first | rw [← Ny224.out] at ho50 | (simp only [Int.reduceToNat] at ho50; rw [← Ny224.out] at ho50)); have n0_ := Aside0.mk (Kd.N_elder' (rNa_ HO186.out) (Kd.R_base ho50) hb); have n1_ := Aside0.mk (Kd.N_elder' (rNa_ HO193.out) (Kd.R_base ho50) hb); have n2_ := Aside0.mk (Kd.R_elder' (rRa_ HO202.out) (Kd.R_base ho50) hb); have n3_ := Aside0.mk (Kd.R_elder' (rRa_ HO212.out) (Kd.R_base ho50) hb); have n4_ := Aside0.mk (Kd.R_elder' (rRa_ HO215.out) (Kd.R_base ho50) hb); have n5_ := Aside0.mk (Kd.R_elder' (rRa_ HO220.out) (Kd.R_base ho50) hb); have n6_ := Aside0.mk (Kd.R_elder' (rRa_ HO223.out) (Kd.R_base ho50) hb); have n7_ := Aside0.mk (Kd.R_lower (Kd.R_new' (Kd.R_new' (Kd.R_new' (Kd.R_new' (Kd.R_new' ho50 (Kd.R_lt (rRa_ HO202.out))) (Kd.R_lt (rRa_ HO212.out))) (Kd.R_lt (rRa_ HO215.out))) (Kd.R_lt (rRa_ HO220.out))) (Kd.R_lt (rRa_ HO223.out))) (below_size bw_)); have n8_ := Aside0.mk (below_step bw_ hb); clear HO186; clear HO193; clear HO202; clear HO212; clear HO215; clear HO220; clear HO223; clear HB; have HO186 := n0_; have HO193 := n1_; have HO202 := n2_; have HO212 := n3_; have HO215 := n4_; have HO220 := n5_; have HO223 := n6_; have HO226 := n7_; have HB := n8_; clear n0_ n1_ n2_ n3_ n4_ n5_ n6_ n7_ n8_; clear hb ho50) | ((with_reducible refine gate_dst (N := 51) rfl ?_); (try (refine gate_guard (by rfl) ?_; dsimp only)); refine Kd.R_lit (Kd.int .i64) _ 3 ?hg (N := 51) ?hd (xs := ([2, 5] : List Int)) (inner := [.int .i64 2, .int .i64 5]) (ok := fun _ => True) (okp := fun _ => True) ?hr ?hp (fun _ hk => hk) trivial (Below.refl _ _) (Nat.le_refl _) (by simp) ?_; (case hd => rfl); (case hg => rfl); (case hr => first | (go_simp; done) | (go_simp; rfl)); (case hp => exact (Reps.one (show Kd.M (Kd.int .i64) _ _ _ 2 [.int .i64 2] from rfl) (Reps.one (show Kd.M (Kd.int .i64) _ _ _ 5 [.int .i64 5] from rfl) (Reps.none _ _)))); intro v228 w51 ho52 hb hg_ hnew_; clear hg_ hnew_; (first | rw [← Ny227.out] at ho52 | (simp only [Int.reduceToNat] at ho52; rw [← Ny227.out] at ho52)); have n0_ := Aside0.mk (Kd.N_elder' (rNa_ HO186.out) (Kd.R_base ho52) hb); have n1_ := Aside0.mk (Kd.N_elder' (rNa_ HO193.out) (Kd.R_base ho52) hb); have n2_ := Aside0.mk (Kd.R_elder' (rRa_ HO202.out) (Kd.R_base ho52) hb); have n3_ := Aside0.mk (Kd.R_elder' (rRa_ HO212.out) (Kd.R_base ho52) hb); have n4_ := Aside0.mk (Kd.R_elder' (rRa_ HO215.out) (Kd.R_base ho52) hb); have n5_ := Aside0.mk (Kd.R_elder' (rRa_ HO220.out) (Kd.R_base ho52) hb); have n6_ := Aside0.mk (Kd.R_elder' (rRa_ HO223.out) (Kd.R_base ho52) hb); have n7_ := Aside0.mk (Kd.R_elder' (rRa_ HO226.out) (Kd.R_base ho52) hb); have n8_ := Aside0.mk (Kd.R_lower (Kd.R_new' (Kd.R_new' (Kd.R_new' (Kd.R_new' (Kd.R_new' (Kd.R_new' ho52 (Kd.R_lt (rRa_ HO202.out))) (Kd.R_lt (rRa_ HO212.out))) (Kd.R_lt (rRa_ HO215.out))) (Kd.R_lt (rRa_ HO220.out))) (Kd.R_lt (rRa_ HO223.out))) (Kd.R_lt (rRa_ HO226.out))) (below_size bw_)); have n9_ := Aside0.mk (below_step bw_ hb); clear HO186; clear HO193; clear HO202; clear HO212; clear HO215; clear HO220; clear HO223; clear HO226; clear HB; have HO186 := n0_; have HO193 := n1_; have HO202 := n2_; have HO212 := n3_; have HO215 := n4_; have HO220 := n5_; have HO223 := n6_; have HO226 := n7_; have HO229 := n8_; have HB := n9_; clear n0_ n1_ n2_ n3_ n4_ n5_ n6_ n7_ n8_ n9_; clear hb ho52; obtain ⟨Ao53, co53, eo53⟩ := Kd.R_slice HO223.out; subst eo53; obtain ⟨Ao54, co54, eo54⟩ := Kd.R_slice HO226.out; subst eo54; obtain ⟨Ao55, co55, eo55⟩ := Kd.R_slice HO229.out; subst eo55) | ((with_reducible refine gate_dst (N := 52) rfl ?_); (try (refine gate_guard (by rfl) ?_; dsimp only)); refine Kd.N_lit (Kd.slice 3 (Kd.int .i64)) _ 22 ?hg (N' := 52) ?hd (xs := ([y221, y224, y227] : List (List Int))) (inner := [.slice Ao53 y221.length co53, .slice Ao54 y224.length co54, .slice Ao55 y227.length co55]) (ok := (fun k_ => some k_ ≠ (v185 : Value).ownBlock ∧ some k_ ≠ (v192 : Value).ownBlock ∧ some k_ ≠ (v201 : Value).ownBlock ∧ some k_ ≠ (v211 : Value).ownBlock ∧ some k_ ≠ (.slice Ao45 y213.length co45 : Value).ownBlock ∧ some k_ ≠ (v219 : Value).ownBlock)) (okp := (fun k_ => some k_ ≠ (v185 : Value).ownBlock ∧ some k_ ≠ (v192 : Value).ownBlock ∧ some k_ ≠ (v201 : Value).ownBlock ∧ some k_ ≠ (v211 : Value).ownBlock ∧ some k_ ≠ (.slice Ao45 y213.length co45 : Value).ownBlock ∧ some k_ ≠ (v219 : Value).ownBlock)) ?hr ?hp (fun _ hk => hk) ((show ∀ k_, w51.heap.size ≤ k_ → (fun k_ => some k_ ≠ (v185 : Value).ownBlock ∧ some k_ ≠ (v192 : Value).ownBlock ∧ some k_ ≠ (v201 : Value).ownBlock ∧ some k_ ≠ (v211 : Value).ownBlock ∧ some k_ ≠ (.slice Ao45 y213.length co45 : Value).ownBlock ∧ some k_ ≠ (v219 : Value).ownBlock) k_ from fun k_ hk => ⟨Kd.fresh' (Kd.N_lt (rNa_ HO186.out)) k_ hk, Kd.fresh' (Kd.N_lt (rNa_ HO193.out)) k_ hk, Kd.fresh' (Kd.R_lt (rRa_ HO202.out)) k_ hk, Kd.fresh' (Kd.R_lt (rRa_ HO212.out)) k_ hk, Kd.fresh' (Kd.R_lt (rRa_ HO215.out)) k_ hk, Kd.fresh' (Kd.R_lt (rRa_ HO220.out)) k_ hk⟩) _ (Nat.le_refl _)) (Below.refl _ _) (Nat.le_refl _) (by simp) ?_; (case hd => rfl); (case hg => rfl); (case hr => first | (go_simp; done) | (go_simp; rfl)); (case hp => exact (Reps.one (show Kd.FK (Kd.slice 3 (Kd.int .i64)) _ _ y221 [.slice Ao53 y221.length co53] from (Kd.FK_slice_mk (Kd.R_reads' (Kd.R_mono (ok' := (fun k_ => some k_ ≠ (v185 : Value).ownBlock ∧ some k_ ≠ (v192 : Value).ownBlock ∧ some k_ ≠ (v201 : Value).ownBlock ∧ some k_ ≠ (v211 : Value).ownBlock ∧ some k_ ≠ (.slice Ao45 y213.length co45 : Value).ownBlock ∧ some k_ ≠ (v219 : Value).ownBlock)) (Kd.R_apart' (Kd.R_apart' (HO223.out) (Kd.N_typed HO186.out) (by decide)) (Kd.N_typed HO193.out) (by decide)) (fun k_ hk => ⟨hk.1.2, ⟨hk.2, ⟨hk.1.1.1.1.1.1.1.2, ⟨hk.1.1.1.1.1.1.2, ⟨hk.1.1.1.1.1.2, hk.1.1.1.1.2⟩⟩⟩⟩⟩))).2.1 (Kd.R_F (Kd.R_mono (ok' := (fun k_ => some k_ ≠ (v185 : Value).ownBlock ∧ some k_ ≠ (v192 : Value).ownBlock ∧ some k_ ≠ (v201 : Value).ownBlock ∧ some k_ ≠ (v211 : Value).ownBlock ∧ some k_ ≠ (.slice Ao45 y213.length co45 : Value).ownBlock ∧ some k_ ≠ (v219 : Value).ownBlock)) (Kd.R_apart' (Kd.R_apart' (HO223.out) (Kd.N_typed HO186.out) (by decide)) (Kd.N_typed HO193.out) (by decide)) (fun k_ hk => ⟨hk.1.2, ⟨hk.2, ⟨hk.1.1.1.1.1.1.1.2, ⟨hk.1.1.1.1.1.1.2, ⟨hk.1.1.1.1.1.2, hk.1.1.1.1.2⟩⟩⟩⟩⟩))))) (Reps.one (show Kd.FK (Kd.slice 3 (Kd.int .i64)) _ _ y224 [.slice Ao54 y224.length co54] from (Kd.FK_slice_mk (Kd.R_reads' (Kd.R_mono (ok' := (fun k_ => some k_ ≠ (v185 : Value).ownBlock ∧ some k_ ≠ (v192 : Value).ownBlock ∧ some k_ ≠ (v201 : Value).ownBlock ∧ some k_ ≠ (v211 : Value).ownBlock ∧ some k_ ≠ (.slice Ao45 y213.length co45 : Value).ownBlock ∧ some k_ ≠ (v219 : Value).ownBlock)) (Kd.R_apart' (Kd.R_apart' (HO226.out) (Kd.N_typed HO186.out) (by decide)) (Kd.N_typed HO193.out) (by decide)) (fun k_ hk => ⟨hk.1.2, ⟨hk.2, ⟨hk.1.1.1.1.1.1.1.2, ⟨hk.1.1.1.1.1.1.2, ⟨hk.1.1.1.1.1.2, hk.1.1.1.1.2⟩⟩⟩⟩⟩))).2.1 (Kd.R_F (Kd.R_mono (ok' := (fun k_ => some k_ ≠ (v185 : Value).ownBlock ∧ some k_ ≠ (v192 : Value).ownBlock ∧ some k_ ≠ (v201 : Value).ownBlock ∧ some k_ ≠ (v211 : Value).ownBlock ∧ some k_ ≠ (.slice Ao45 y213.length co45 : Value).ownBlock ∧ some k_ ≠ (v219 : Value).ownBlock)) (Kd.R_apart' (Kd.R_apart' (HO226.out) (Kd.N_typed HO186.out) (by decide)) (Kd.N_typed HO193.out) (by decide)) (fun k_ hk => ⟨hk.1.2, ⟨hk.2, ⟨hk.1.1.1.1.1.1.1.2, ⟨hk.1.1.1.1.1.1.2, ⟨hk.1.1.1.1.1.2, hk.1.1.1.1.2⟩⟩⟩⟩⟩))))) (Reps.one (show Kd.FK (Kd.slice 3 (Kd.int .i64)) _ _ y227 [.slice Ao55 y227.length co55] from (Kd.FK_slice_mk (Kd.R_reads' (Kd.R_mono (ok' := (fun k_ => some k_ ≠ (v185 : Value).ownBlock ∧ some k_ ≠ (v192 : Value).ownBlock ∧ some k_ ≠ (v201 : Value).ownBlock ∧ some k_ ≠ (v211 : Value).ownBlock ∧ some k_ ≠ (.slice Ao45 y213.length co45 : Value).ownBlock ∧ some k_ ≠ (v219 : Value).ownBlock)) (Kd.R_apart' (Kd.R_apart' (HO229.out) (Kd.N_typed HO186.out) (by decide)) (Kd.N_typed HO193.out) (by decide)) (fun k_ hk => ⟨hk.1.2, ⟨hk.2, ⟨hk.1.1.1.1.1.1.1.2, ⟨hk.1.1.1.1.1.1.2, ⟨hk.1.1.1.1.1.2, hk.1.1.1.1.2⟩⟩⟩⟩⟩))).2.1 (Kd.R_F (Kd.R_mono (ok' := (fun k_ => some k_ ≠ (v185 : Value).ownBlock ∧ some k_ ≠ (v192 : Value).ownBlock ∧ some k_ ≠ (v201 : Value).ownBlock ∧ some k_ ≠ (v211 : Value).ownBlock ∧ some k_ ≠ (.slice Ao45 y213.length co45 : Value).ownBlock ∧ some k_ ≠ (v219 : Value).ownBlock)) (Kd.R_apart' (Kd.R_apart' (HO229.out) (Kd.N_typed HO186.out) (by decide)) (Kd.N_typed HO193.out) (by decide)) (fun k_ hk => ⟨hk.1.2, ⟨hk.2, ⟨hk.1.1.1.1.1.1.1.2, ⟨hk.1.1.1.1.1.1.2, ⟨hk.1.1.1.1.1.2, hk.1.1.1.1.2⟩⟩⟩⟩⟩))))) (Reps.none _ _))))); intro v231 w56 ho57 hb hg_ hnew_; clear hg_ hnew_; (first | rw [← Ny230.out] at ho57 | (simp only [Int.reduceToNat] at ho57; rw [← Ny230.out] at ho57)); have n0_ := Aside0.mk (Kd.N_elder' (rNa_ HO186.out) (by first | exact Kd.N_base ho57 | exact Kd.S_base ho57) hb); have n1_ := Aside0.mk (Kd.N_elder' (rNa_ HO193.out) (by first | exact Kd.N_base ho57 | exact Kd.S_base ho57) hb); have n2_ := Aside0.mk (Kd.R_below (rRa_ HO202.out) hb); have n3_ := Aside0.mk (Kd.R_below (rRa_ HO212.out) hb); have n4_ := Aside0.mk (Kd.R_below (rRa_ HO215.out) hb); have n5_ := Aside0.mk (Kd.R_below (rRa_ HO220.out) hb); have n6_ := Aside0.mk (Kd.N_lower ho57 (below_size bw_)); have n7_ := Aside0.mk (below_step bw_ hb); clear HO186; clear HO193; clear HO202; clear HO212; clear HO215; clear HO220; clear HB; clear HO223; clear HO226; clear HO229; have HO186 := n0_; have HO193 := n1_; have HO202 := n2_; have HO212 := n3_; have HO215 := n4_; have HO220 := n5_; have HO232 := n6_; have HB := n7_; clear n0_ n1_ n2_ n3_ n4_ n5_ n6_ n7_; clear hb ho57; obtain ⟨Ao58, co58, eo58⟩ := Kd.N_slice HO186.out; subst eo58; obtain ⟨Ao59, co59, eo59⟩ := Kd.N_slice HO232.out; subst eo59) | (go_at_call 37; (with_reducible refine (torusref07_Same.calls k _ _ t183 _ _ y230 true _ ?side1 ?side2 ?side3 ?side4 A8.out).mono ?_); (case side1 => repeat (first | exact (Kd.N_reads' HO186.out).2.2 | (with_reducible refine Kd.C_alloc ?_ _) | (with_reducible refine Kd.C_drewN ?_ _) | (with_reducible refine Kd.C_drew ?_))); (case side2 => exact (Kd.N_reads' HO186.out).2.1); (case side3 => repeat (first | exact (Kd.N_reads' HO232.out).2.2 | (with_reducible refine Kd.C_alloc ?_ _) | (with_reducible refine Kd.C_drewN ?_ _) | (with_reducible refine Kd.C_drew ?_))); (case side4 => exact (Kd.N_reads' HO232.out).2.1); rintro e w' ⟨rfl, ⟨nd, rfl⟩⟩) | ((with_reducible refine gate_dst (N := 61) rfl ?_); (try (refine gate_guard (by rfl) ?_; dsimp only)); refine Kd.R_lit (Kd.int .i64) _ 3 ?hg (N := 61) ?hd (xs := ([2] : List Int)) (inner := [.int .i64 2]) (ok := fun _ => True) (okp := fun _ => True) ?hr ?hp (fun _ hk => hk) trivial (Below.refl _ _) (Nat.le_refl _) (by simp) ?_; (case hd => rfl); (case hg => rfl); (case hr => first | (go_simp; done) | (go_simp; rfl)); (case hp => exact (Reps.one (show Kd.M (Kd.int .i64) _ _ _ 2 [.int .i64 2] from rfl) (Reps.none _ _))); intro v235 w60 ho61 hb hg_ hnew_; clear hg_ hnew_; (first | rw [← Ny234.out] at ho61 | (simp only [Int.reduceToNat] at ho61; rw [← Ny234.out] at ho61)); have n0_ := Aside0.mk (Kd.N_elder' (rNa_ HO186.out) (Kd.R_base ho61) hb); have n1_ := Aside0.mk (Kd.N_elder' (rNa_ HO193.out) (Kd.R_base ho61) hb); have n2_ := Aside0.mk (Kd.R_elder' (rRa_ HO202.out) (Kd.R_base ho61) hb); have n3_ := Aside0.mk (Kd.R_elder' (rRa_ HO212.out) (Kd.R_base ho61) hb); have n4_ := Aside0.mk (Kd.R_elder' (rRa_ HO215.out) (Kd.R_base ho61) hb); have n5_ := Aside0.mk (Kd.R_elder' (rRa_ HO220.out) (Kd.R_base ho61) hb); have n6_ := Aside0.mk (Kd.N_elder' (rNa_ HO232.out) (Kd.R_base ho61) hb); have n7_ := Aside0.mk (Kd.R_lower (Kd.R_new' (Kd.R_new' (Kd.R_new' (Kd.R_new' ho61 (Kd.R_lt (rRa_ HO202.out))) (Kd.R_lt (rRa_ HO212.out))) (Kd.R_lt (rRa_ HO215.out))) (Kd.R_lt (rRa_ HO220.out))) (below_size bw_)); have n8_ := Aside0.mk (below_step bw_ hb); clear HO186; clear HO193; clear HO202; clear HO212; clear HO215; clear HO220; clear HO232; clear HB; have HO186 := n0_; have HO193 := n1_; have HO202 := n2_; have HO212 := n3_; have HO215 := n4_; have HO220 := n5_; have HO232 := n6_; have HO236 := n7_; have HB := n8_; clear n0_ n1_ n2_ n3_ n4_ n5_ n6_ n7_ n8_; clear hb ho61) | ((with_reducible refine gate_dst (N := 62) rfl ?_); (try (refine gate_guard (by rfl) ?_; dsimp only)); refine Kd.R_lit (Kd.int .i64) _ 3 ?hg (N := 62) ?hd (xs := ([5] : List Int)) (inner := [.int .i64 5]) (ok := fun _ => True) (okp := fun _ => True) ?hr ?hp (fun _ hk => hk) trivial (Below.refl _ _) (Nat.le_refl _) (by simp) ?_; (case hd => rfl); (case hg => rfl); (case hr => first | (go_simp; done) | (go_simp; rfl)); (case hp => exact (Reps.one (show Kd.M (Kd.int .i64) _ _ _ 5 [.int .i64 5] from rfl) (Reps.none _ _))); intro v238 w62 ho63 hb hg_ hnew_; clear hg_ hnew_; (first | rw [← Ny237.out] at ho63 | (simp only [Int.reduceToNat] at ho63; rw [← Ny237.out] at ho63)); have n0_ := Aside0.mk (Kd.N_elder' (rNa_ HO186.out) (Kd.R_base ho63) hb); have n1_ := Aside0.mk (Kd.N_elder' (rNa_ HO193.out) (Kd.R_base ho63) hb); have n2_ := Aside0.mk (Kd.R_elder' (rRa_ HO202.out) (Kd.R_base ho63) hb); have n3_ := Aside0.mk (Kd.R_elder' (rRa_ HO212.out) (Kd.R_base ho63) hb); have n4_ := Aside0.mk (Kd.R_elder' (rRa_ HO215.out) (Kd.R_base ho63) hb); have n5_ := Aside0.mk (Kd.R_elder' (rRa_ HO220.out) (Kd.R_base ho63) hb); have n6_ := Aside0.mk (Kd.N_elder' (rNa_ HO232.out) (Kd.R_base ho63) hb); have n7_ := Aside0.mk (Kd.R_elder' (rRa_ HO236.out) (Kd.R_base ho63) hb); have n8_ := Aside0.mk (Kd.R_lower (Kd.R_new' (Kd.R_new' (Kd.R_new' (Kd.R_new' (Kd.R_new' ho63 (Kd.R_lt (rRa_ HO202.out))) (Kd.R_lt (rRa_ HO212.out))) (Kd.R_lt (rRa_ HO215.out))) (Kd.R_lt (rRa_ HO220.out))) (Kd.R_lt (rRa_ HO236.out))) (below_size bw_)); have n9_ := Aside0.mk (below_step bw_ hb); clear HO186; clear HO193; clear HO202; clear HO212; clear HO215; clear HO220; clear HO232; clear HO236; clear HB; have HO186 := n0_; have HO193 := n1_; have HO202 := n2_; have HO212 := n3_; have HO215 := n4_; have HO220 := n5_; have HO232 := n6_; have HO236 := n7_; have HO239 := n8_; have HB := n9_; clear n0_ n1_ n2_ n3_ n4_ n5_ n6_ n7_ n8_ n9_; clear hb ho63) | ((with_reducible refine gate_dst (N := 63) rfl ?_); (try (refine gate_guard (by rfl) ?_; dsimp only)); refine Kd.R_lit (Kd.int .i64) _ 3 ?hg (N := 63) ?hd (xs := ([2, 5] : List Int)) (inner := [.int .i64 2, .int .i64 5]) (ok := fun _ => True) (okp := fun _ => True) ?hr ?hp (fun _ hk => hk) trivial (Below.refl _ _) (Nat.le_refl _) (by simp) ?_; (case hd => rfl); (case hg => rfl); (case hr => first | (go_simp; done) | (go_simp; rfl)); (case hp => exact (Reps.one (show Kd.M (Kd.int .i64) _ _ _ 2 [.int .i64 2] from rfl) (Reps.one (show Kd.M (Kd.int .i64) _ _ _ 5 [.int .i64 5] from rfl) (Reps.none _ _)))); intro v241 w64 ho65 hb hg_ hnew_; clear hg_ hnew_; (first | rw [← Ny240.out] at ho65 | (simp only [Int.reduceToNat] at ho65; rw [← Ny240.out] at ho65)); have n0_ := Aside0.mk (Kd.N_elder' (rNa_ HO186.out) (Kd.R_base ho65) hb); have n1_ := Aside0.mk (Kd.N_elder' (rNa_ HO193.out) (Kd.R_base ho65) hb); have n2_ := Aside0.mk (Kd.R_elder' (rRa_ HO202.out) (Kd.R_base ho65) hb); have n3_ := Aside0.mk (Kd.R_elder' (rRa_ HO212.out) (Kd.R_base ho65) hb); have n4_ := Aside0.mk (Kd.R_elder' (rRa_ HO215.out) (Kd.R_base ho65) hb); have n5_ := Aside0.mk (Kd.R_elder' (rRa_ HO220.out) (Kd.R_base ho65) hb); have n6_ := Aside0.mk (Kd.N_elder' (rNa_ HO232.out) (Kd.R_base ho65) hb); have n7_ := Aside0.mk (Kd.R_elder' (rRa_ HO236.out) (Kd.R_base ho65) hb); have n8_ := Aside0.mk (Kd.R_elder' (rRa_ HO239.out) (Kd.R_base ho65) hb); have n9_ := Aside0.mk (Kd.R_lower (Kd.R_new' (Kd.R_new' (Kd.R_new' (Kd.R_new' (Kd.R_new' (Kd.R_new' ho65 (Kd.R_lt (rRa_ HO202.out))) (Kd.R_lt (rRa_ HO212.out))) (Kd.R_lt (rRa_ HO215.out))) (Kd.R_lt (rRa_ HO220.out))) (Kd.R_lt (rRa_ HO236.out))) (Kd.R_lt (rRa_ HO239.out))) (below_size bw_)); have n10_ := Aside0.mk (below_step bw_ hb); clear HO186; clear HO193; clear HO202; clear HO212; clear HO215; clear HO220; clear HO232; clear HO236; clear HO239; clear HB; have HO186 := n0_; have HO193 := n1_; have HO202 := n2_; have HO212 := n3_; have HO215 := n4_; have HO220 := n5_; have HO232 := n6_; have HO236 := n7_; have HO239 := n8_; have HO242 := n9_; have HB := n10_; clear n0_ n1_ n2_ n3_ n4_ n5_ n6_ n7_ n8_ n9_ n10_; clear hb ho65; obtain ⟨Ao66, co66, eo66⟩ := Kd.R_slice HO236.out; subst eo66; obtain ⟨Ao67, co67, eo67⟩ := Kd.R_slice HO239.out; subst eo67; obtain ⟨Ao68, co68, eo68⟩ := Kd.R_slice HO242.out; subst eo68) | ((with_reducible refine gate_dst (N := 64) rfl ?_); (try (refine gate_guard (by rfl) ?_; dsimp only)); refine Kd.N_lit (Kd.slice 3 (Kd.int .i64)) _ 22 ?hg (N' := 64) ?hd (xs := ([y234, y237, y240] : List (List Int))) (inner := [.slice Ao66 y234.length co66, .slice Ao67 y237.length co67, .slice Ao68 y240.length co68]) (ok := (fun k_ => some k_ ≠ (.slice Ao58 t183.length co58 : Value).ownBlock ∧ some k_ ≠ (v192 : Value).ownBlock ∧ some k_ ≠ (v201 : Value).ownBlock ∧ some k_ ≠ (v211 : Value).ownBlock ∧ some k_ ≠ (.slice Ao45 y213.length co45 : Value).ownBlock ∧ some k_ ≠ (v219 : Value).ownBlock ∧ some k_ ≠ (.slice Ao59 y230.length co59 : Value).ownBlock)) (okp := (fun k_ => some k_ ≠ (.slice Ao58 t183.length co58 : Value).ownBlock ∧ some k_ ≠ (v192 : Value).ownBlock ∧ some k_ ≠ (v201 : Value).ownBlock ∧ some k_ ≠ (v211 : Value).ownBlock ∧ some k_ ≠ (.slice Ao45 y213.length co45 : Value).ownBlock ∧ some k_ ≠ (v219 : Value).ownBlock ∧ some k_ ≠ (.slice Ao59 y230.length co59 : Value).ownBlock)) ?hr ?hp (fun _ hk => hk) ((show ∀ k_, w64.heap.size ≤ k_ → (fun k_ => some k_ ≠ (.slice Ao58 t183.length co58 : Value).ownBlock ∧ some k_ ≠ (v192 : Value).ownBlock ∧ some k_ ≠ (v201 : Value).ownBlock ∧ some k_ ≠ (v211 : Value).ownBlock ∧ some k_ ≠ (.slice Ao45 y213.length co45 : Value).ownBlock ∧ some k_ ≠ (v219 : Value).ownBlock ∧ some k_ ≠ (.slice Ao59 y230.length co59 : Value).ownBlock) k_ from fun k_ hk => ⟨Kd.fresh' (Kd.N_lt (rNa_ HO186.out)) k_ hk, Kd.fresh' (Kd.N_lt (rNa_ HO193.out)) k_ hk, Kd.fresh' (Kd.R_lt (rRa_ HO202.out)) k_ hk, Kd.fresh' (Kd.R_lt (rRa_ HO212.out)) k_ hk, Kd.fresh' (Kd.R_lt (rRa_ HO215.out)) k_ hk, Kd.fresh' (Kd.R_lt (rRa_ HO220.out)) k_ hk, Kd.fresh' (Kd.N_lt (rNa_ HO232.out)) k_ hk⟩) _ (Nat.le_refl _)) (Below.refl _ _) (Nat.le_refl _) (by simp) ?_; (case hd => rfl); (case hg => rfl); (case hr => first | (go_simp; done) | (go_simp; rfl)); (case hp => exact (Reps.one (show Kd.FK (Kd.slice 3 (Kd.int .i64)) _ _ y234 [.slice Ao66 y234.length co66] from (Kd.FK_slice_mk (Kd.R_reads' (Kd.R_mono (ok' := (fun k_ => some k_ ≠ (.slice Ao58 t183.length co58 : Value).ownBlock ∧ some k_ ≠ (v192 : Value).ownBlock ∧ some k_ ≠ (v201 : Value).ownBlock ∧ some k_ ≠ (v211 : Value).ownBlock ∧ some k_ ≠ (.slice Ao45 y213.length co45 : Value).ownBlock ∧ some k_ ≠ (v219 : Value).ownBlock ∧ some k_ ≠ (.slice Ao59 y230.length co59 : Value).ownBlock)) (Kd.R_apart' (Kd.R_apart' (Kd.R_apart' (HO236.out) (Kd.N_typed HO186.out) (by decide)) (Kd.N_typed HO193.out) (by decide)) (Kd.N_typed HO232.out) (by decide)) (fun k_ hk => ⟨hk.1.1.2, ⟨hk.1.2, ⟨hk.1.1.1.1.1.1.1.1.2, ⟨hk.1.1.1.1.1.1.1.2, ⟨hk.1.1.1.1.1.1.2, ⟨hk.1.1.1.1.1.2, hk.2⟩⟩⟩⟩⟩⟩))).2.1 (Kd.R_F (Kd.R_mono (ok' := (fun k_ => some k_ ≠ (.slice Ao58 t183.length co58 : Value).ownBlock ∧ some k_ ≠ (v192 : Value).ownBlock ∧ some k_ ≠ (v201 : Value).ownBlock ∧ some k_ ≠ (v211 : Value).ownBlock ∧ some k_ ≠ (.slice Ao45 y213.length co45 : Value).ownBlock ∧ some k_ ≠ (v219 : Value).ownBlock ∧ some k_ ≠ (.slice Ao59 y230.length co59 : Value).ownBlock)) (Kd.R_apart' (Kd.R_apart' (Kd.R_apart' (HO236.out) (Kd.N_typed HO186.out) (by decide)) (Kd.N_typed HO193.out) (by decide)) (Kd.N_typed HO232.out) (by decide)) (fun k_ hk => ⟨hk.1.1.2, ⟨hk.1.2, ⟨hk.1.1.1.1.1.1.1.1.2, ⟨hk.1.1.1.1.1.1.1.2, ⟨hk.1.1.1.1.1.1.2, ⟨hk.1.1.1.1.1.2, hk.2⟩⟩⟩⟩⟩⟩))))) (Reps.one (show Kd.FK (Kd.slice 3 (Kd.int .i64)) _ _ y237 [.slice Ao67 y237.length co67] from (Kd.FK_slice_mk (Kd.R_reads' (Kd.R_mono (ok' := (fun k_ => some k_ ≠ (.slice Ao58 t183.length co58 : Value).ownBlock ∧ some k_ ≠ (v192 : Value).ownBlock ∧ some k_ ≠ (v201 : Value).ownBlock ∧ some k_ ≠ (v211 : Value).ownBlock ∧ some k_ ≠ (.slice Ao45 y213.length co45 : Value).ownBlock ∧ some k_ ≠ (v219 : Value).ownBlock ∧ some k_ ≠ (.slice Ao59 y230.length co59 : Value).ownBlock)) (Kd.R_apart' (Kd.R_apart' (Kd.R_apart' (HO239.out) (Kd.N_typed HO186.out) (by decide)) (Kd.N_typed HO193.out) (by decide)) (Kd.N_typed HO232.out) (by decide)) (fun k_ hk => ⟨hk.1.1.2, ⟨hk.1.2, ⟨hk.1.1.1.1.1.1.1.1.2, ⟨hk.1.1.1.1.1.1.1.2, ⟨hk.1.1.1.1.1.1.2, ⟨hk.1.1.1.1.1.2, hk.2⟩⟩⟩⟩⟩⟩))).2.1 (Kd.R_F (Kd.R_mono (ok' := (fun k_ => some k_ ≠ (.slice Ao58 t183.length co58 : Value).ownBlock ∧ some k_ ≠ (v192 : Value).ownBlock ∧ some k_ ≠ (v201 : Value).ownBlock ∧ some k_ ≠ (v211 : Value).ownBlock ∧ some k_ ≠ (.slice Ao45 y213.length co45 : Value).ownBlock ∧ some k_ ≠ (v219 : Value).ownBlock ∧ some k_ ≠ (.slice Ao59 y230.length co59 : Value).ownBlock)) (Kd.R_apart' (Kd.R_apart' (Kd.R_apart' (HO239.out) (Kd.N_typed HO186.out) (by decide)) (Kd.N_typed HO193.out) (by decide)) (Kd.N_typed HO232.out) (by decide)) (fun k_ hk => ⟨hk.1.1.2, ⟨hk.1.2, ⟨hk.1.1.1.1.1.1.1.1.2, ⟨hk.1.1.1.1.1.1.1.2, ⟨hk.1.1.1.1.1.1.2, ⟨hk.1.1.1.1.1.2, hk.2⟩⟩⟩⟩⟩⟩))))) (Reps.one (show Kd.FK (Kd.slice 3 (Kd.int .i64)) _ _ y240 [.slice Ao68 y240.length co68] from (Kd.FK_slice_mk (Kd.R_reads' (Kd.R_mono (ok' := (fun k_ => some k_ ≠ (.slice Ao58 t183.length co58 : Value).ownBlock ∧ some k_ ≠ (v192 : Value).ownBlock ∧ some k_ ≠ (v201 : Value).ownBlock ∧ some k_ ≠ (v211 : Value).ownBlock ∧ some k_ ≠ (.slice Ao45 y213.length co45 : Value).ownBlock ∧ some k_ ≠ (v219 : Value).ownBlock ∧ some k_ ≠ (.slice Ao59 y230.length co59 : Value).ownBlock)) (Kd.R_apart' (Kd.R_apart' (Kd.R_apart' (HO242.out) (Kd.N_typed HO186.out) (by decide)) (Kd.N_typed HO193.out) (by decide)) (Kd.N_typed HO232.out) (by decide)) (fun k_ hk => ⟨hk.1.1.2, ⟨hk.1.2, ⟨hk.1.1.1.1.1.1.1.1.2, ⟨hk.1.1.1.1.1.1.1.2, ⟨hk.1.1.1.1.1.1.2, ⟨hk.1.1.1.1.1.2, hk.2⟩⟩⟩⟩⟩⟩))).2.1 (Kd.R_F (Kd.R_mono (ok' := (fun k_ => some k_ ≠ (.slice Ao58 t183.length co58 : Value).ownBlock ∧ some k_ ≠ (v192 : Value).ownBlock ∧ some k_ ≠ (v201 : Value).ownBlock ∧ some k_ ≠ (v211 : Value).ownBlock ∧ some k_ ≠ (.slice Ao45 y213.length co45 : Value).ownBlock ∧ some k_ ≠ (v219 : Value).ownBlock ∧ some k_ ≠ (.slice Ao59 y230.length co59 : Value).ownBlock)) (Kd.R_apart' (Kd.R_apart' (Kd.R_apart' (HO242.out) (Kd.N_typed HO186.out) (by decide)) (Kd.N_typed HO193.out) (by decide)) (Kd.N_typed HO232.out) (by decide)) (fun k_ hk => ⟨hk.1.1.2, ⟨hk.1.2, ⟨hk.1.1.1.1.1.1.1.1.2, ⟨hk.1.1.1.1.1.1.1.2, ⟨hk.1.1.1.1.1.1.2, ⟨hk.1.1.1.1.1.2, hk.2⟩⟩⟩⟩⟩⟩))))) (Reps.none _ _))))); intro v244 w69 ho70 hb hg_ hnew_; clear hg_ hnew_; (first | rw [← Ny243.out] at ho70 | (simp only [Int.reduceToNat] at ho70; rw [← Ny243.out] at ho70)); have n0_ := Aside0.mk (Kd.N_elder' (rNa_ HO186.out) (by first | exact Kd.N_base ho70 | exact Kd.S_base ho70) hb); have n1_ := Aside0.mk (Kd.N_elder' (rNa_ HO193.out) (by first | exact Kd.N_base ho70 | exact Kd.S_base ho70) hb); have n2_ := Aside0.mk (Kd.R_below (rRa_ HO202.out) hb); have n3_ := Aside0.mk (Kd.R_below (rRa_ HO212.out) hb); have n4_ := Aside0.mk (Kd.R_below (rRa_ HO215.out) hb); have n5_ := Aside0.mk (Kd.R_below (rRa_ HO220.out) hb); have n6_ := Aside0.mk (Kd.N_elder' (rNa_ HO232.out) (by first | exact Kd.N_base ho70 | exact Kd.S_base ho70) hb); have n7_ := Aside0.mk (Kd.N_lower ho70 (below_size bw_)); have n8_ := Aside0.mk (below_step bw_ hb); clear HO186; clear HO193; clear HO202; clear HO212; clear HO215; clear HO220; clear HO232; clear HB; clear HO236; clear HO239; clear HO242; have HO186 := n0_; have HO193 := n1_; have HO202 := n2_; have HO212 := n3_; have HO215 := n4_; have HO220 := n5_; have HO232 := n6_; have HO245 := n7_; have HB := n8_; clear n0_ n1_ n2_ n3_ n4_ n5_ n6_ n7_ n8_; clear hb ho70; obtain ⟨Ao71, co71, eo71⟩ := Kd.N_slice HO193.out; subst eo71; obtain ⟨Ao72, co72, eo72⟩ := Kd.N_slice HO245.out; subst eo72) | (go_at_call 37; (with_reducible refine (torusref07_Same.calls k _ _ t190 _ _ y243 true _ ?side1 ?side2 ?side3 ?side4 A11.out).mono ?_); (case side1 => repeat (first | exact (Kd.N_reads' HO193.out).2.2 | (with_reducible refine Kd.C_alloc ?_ _) | (with_reducible refine Kd.C_drewN ?_ _) | (with_reducible refine Kd.C_drew ?_))); (case side2 => exact (Kd.N_reads' HO193.out).2.1); (case side3 => repeat (first | exact (Kd.N_reads' HO245.out).2.2 | (with_reducible refine Kd.C_alloc ?_ _) | (with_reducible refine Kd.C_drewN ?_ _) | (with_reducible refine Kd.C_drew ?_))); (case side4 => exact (Kd.N_reads' HO245.out).2.1); rintro e w' ⟨rfl, ⟨nd, rfl⟩⟩) | ((with_reducible refine gate_dst (N := 70) rfl ?_); (try (refine gate_guard (by rfl) ?_; dsimp only)); refine Kd.R_lit (Kd.int .i64) _ 3 ?hg (N := 70) ?hd (xs := ([1, 2, 3] : List Int)) (inner := [.int .i64 1, .int .i64 2, .int .i64 3]) (ok := fun _ => True) (okp := fun _ => True) ?hr ?hp (fun _ hk => hk) trivial (Below.refl _ _) (Nat.le_refl _) (by simp) ?_; (case hd => rfl); (case hg => rfl); (case hr => first | (go_simp; done) | (go_simp; rfl)); (case hp => exact (Reps.one (show Kd.M (Kd.int .i64) _ _ _ 1 [.int .i64 1] from rfl) (Reps.one (show Kd.M (Kd.int .i64) _ _ _ 2 [.int .i64 2] from rfl) (Reps.one (show Kd.M (Kd.int .i64) _ _ _ 3 [.int .i64 3] from rfl) (Reps.none _ _))))); intro v248 w73 ho74 hb hg_ hnew_; clear hg_ hnew_; (first | rw [← Ny247.out] at ho74 | (simp only [Int.reduceToNat] at ho74; rw [← Ny247.out] at ho74)); have n0_ := Aside0.mk (Kd.N_elder' (rNa_ HO186.out) (Kd.R_base ho74) hb); have n1_ := Aside0.mk (Kd.N_elder' (rNa_ HO193.out) (Kd.R_base ho74) hb); have n2_ := Aside0.mk (Kd.R_elder' (rRa_ HO202.out) (Kd.R_base ho74) hb); have n3_ := Aside0.mk (Kd.R_elder' (rRa_ HO212.out) (Kd.R_base ho74) hb); have n4_ := Aside0.mk (Kd.R_elder' (rRa_ HO215.out) (Kd.R_base ho74) hb); have n5_ := Aside0.mk (Kd.R_elder' (rRa_ HO220.out) (Kd.R_base ho74) hb); have n6_ := Aside0.mk (Kd.N_elder' (rNa_ HO232.out) (Kd.R_base ho74) hb); have n7_ := Aside0.mk (Kd.N_elder' (rNa_ HO245.out) (Kd.R_base ho74) hb); have n8_ := Aside0.mk (Kd.R_lower (Kd.R_new' (Kd.R_new' (Kd.R_new' (Kd.R_new' ho74 (Kd.R_lt (rRa_ HO202.out))) (Kd.R_lt (rRa_ HO212.out))) (Kd.R_lt (rRa_ HO215.out))) (Kd.R_lt (rRa_ HO220.out))) (below_size bw_)); have n9_ := Aside0.mk (below_step bw_ hb); clear HO186; clear HO193; clear HO202; clear HO212; clear HO215; clear HO220; clear HO232; clear HO245; clear HB; have HO186 := n0_; have HO193 := n1_; have HO202 := n2_; have HO212 := n3_; have HO215 := n4_; have HO220 := n5_; have HO232 := n6_; have HO245 := n7_; have HO249 := n8_; have HB := n9_; clear n0_ n1_ n2_ n3_ n4_ n5_ n6_ n7_ n8_ n9_; clear hb ho74; obtain ⟨Ao75, co75, eo75⟩ := Kd.R_slice HO202.out; subst eo75; obtain ⟨Ao76, co76, eo76⟩ := Kd.R_slice HO249.out; subst eo76) | (go_at_call 22; (with_reducible refine (toruslaw07_is.calls k _ _ t200 t203 _ _ y247 true _ ?side1 ?side2 ?side3 ?side4 A13.out).mono ?_); (case side1 => repeat (first | exact (Kd.R_reads' HO202.out).2.2 | (with_reducible refine Kd.C_alloc ?_ _) | (with_reducible refine Kd.C_drewN ?_ _) | (with_reducible refine Kd.C_drew ?_))); (case side2 => exact (Kd.R_reads' HO202.out).2.1); (case side3 => repeat (first | exact (Kd.R_reads' HO249.out).2.2 | (with_reducible refine Kd.C_alloc ?_ _) | (with_reducible refine Kd.C_drewN ?_ _) | (with_reducible refine Kd.C_drew ?_))); (case side4 => exact (Kd.R_reads' HO249.out).2.1); rintro e w' ⟨rfl, ⟨nd, rfl⟩⟩) | ((with_reducible refine gate_dst (N := 84) rfl ?_); (try (refine gate_guard (by rfl) ?_; dsimp only)); refine Kd.R_lit (Kd.int .i64) _ 3 ?hg (N := 84) ?hd (xs := ([1, 3] : List Int)) (inner := [.int .i64 1, .int .i64 3]) (ok := fun _ => True) (okp := fun _ => True) ?hr ?hp (fun _ hk => hk) trivial (Below.refl _ _) (Nat.le_refl _) (by simp) ?_; (case hd => rfl); (case hg => rfl); (case hr => first | (go_simp; done) | (go_simp; rfl)); (case hp => exact (Reps.one (show Kd.M (Kd.int .i64) _ _ _ 1 [.int .i64 1] from rfl) (Reps.one (show Kd.M (Kd.int .i64) _ _ _ 3 [.int .i64 3] from rfl) (Reps.none _ _)))); intro v252 w77 ho78 hb hg_ hnew_; clear hg_ hnew_; (first | rw [← Ny251.out] at ho78 | (simp only [Int.reduceToNat] at ho78; rw [← Ny251.out] at ho78)); have n0_ := Aside0.mk (Kd.N_elder' (rNa_ HO186.out) (Kd.R_base ho78) hb); have n1_ := Aside0.mk (Kd.N_elder' (rNa_ HO193.out) (Kd.R_base ho78) hb); have n2_ := Aside0.mk (Kd.R_elder' (rRa_ HO202.out) (Kd.R_base ho78) hb); have n3_ := Aside0.mk (Kd.R_elder' (rRa_ HO212.out) (Kd.R_base ho78) hb); have n4_ := Aside0.mk (Kd.R_elder' (rRa_ HO215.out) (Kd.R_base ho78) hb); have n5_ := Aside0.mk (Kd.R_elder' (rRa_ HO220.out) (Kd.R_base ho78) hb); have n6_ := Aside0.mk (Kd.N_elder' (rNa_ HO232.out) (Kd.R_base ho78) hb); have n7_ := Aside0.mk (Kd.N_elder' (rNa_ HO245.out) (Kd.R_base ho78) hb); have n8_ := Aside0.mk (Kd.R_elder' (rRa_ HO249.out) (Kd.R_base ho78) hb); have n9_ := Aside0.mk (Kd.R_lower (Kd.R_new' (Kd.R_new' (Kd.R_new' (Kd.R_new' (Kd.R_new' ho78 (Kd.R_lt (rRa_ HO202.out))) (Kd.R_lt (rRa_ HO212.out))) (Kd.R_lt (rRa_ HO215.out))) (Kd.R_lt (rRa_ HO220.out))) (Kd.R_lt (rRa_ HO249.out))) (below_size bw_)); have n10_ := Aside0.mk (below_step bw_ hb); clear HO186; clear HO193; clear HO202; clear HO212; clear HO215; clear HO220; clear HO232; clear HO245; clear HO249; clear HB; have HO186 := n0_; have HO193 := n1_; have HO202 := n2_; have HO212 := n3_; have HO215 := n4_; have HO220 := n5_; have HO232 := n6_; have HO245 := n7_; have HO249 := n8_; have HO253 := n9_; have HB := n10_; clear n0_ n1_ n2_ n3_ n4_ n5_ n6_ n7_ n8_ n9_ n10_; clear hb ho78; obtain ⟨Ao79, co79, eo79⟩ := Kd.R_slice HO212.out; subst eo79; obtain ⟨Ao80, co80, eo80⟩ := Kd.R_slice HO253.out; subst eo80) | (go_at_call 22; (with_reducible refine (toruslaw07_is.calls k _ _ t209 t210 _ _ y251 true _ ?side1 ?side2 ?side3 ?side4 A17.out).mono ?_); (case side1 => repeat (first | exact (Kd.R_reads' HO212.out).2.2 | (with_reducible refine Kd.C_alloc ?_ _) | (with_reducible refine Kd.C_drewN ?_ _) | (with_reducible refine Kd.C_drew ?_))); (case side2 => exact (Kd.R_reads' HO212.out).2.1); (case side3 => repeat (first | exact (Kd.R_reads' HO253.out).2.2 | (with_reducible refine Kd.C_alloc ?_ _) | (with_reducible refine Kd.C_drewN ?_ _) | (with_reducible refine Kd.C_drew ?_))); (case side4 => exact (Kd.R_reads' HO253.out).2.1); rintro e w' ⟨rfl, ⟨nd, rfl⟩⟩) | ((with_reducible refine gate_dst (N := 90) rfl ?_); (try (refine gate_guard (by rfl) ?_; dsimp only)); refine Kd.R_lit (Kd.int .i64) _ 3 ?hg (N := 90) ?hd (xs := ([1, 2, 3] : List Int)) (inner := [.int .i64 1, .int .i64 2, .int .i64 3]) (ok := fun _ => True) (okp := fun _ => True) ?hr ?hp (fun _ hk => hk) trivial (Below.refl _ _) (Nat.le_refl _) (by simp) ?_; (case hd => rfl); (case hg => rfl); (case hr => first | (go_simp; done) | (go_simp; rfl)); (case hp => exact (Reps.one (show Kd.M (Kd.int .i64) _ _ _ 1 [.int .i64 1] from rfl) (Reps.one (show Kd.M (Kd.int .i64) _ _ _ 2 [.int .i64 2] from rfl) (Reps.one (show Kd.M (Kd.int .i64) _ _ _ 3 [.int .i64 3] from rfl) (Reps.none _ _))))); intro v256 w81 ho82 hb hg_ hnew_; clear hg_ hnew_; (first | rw [← Ny255.out] at ho82 | (simp only [Int.reduceToNat] at ho82; rw [← Ny255.out] at ho82)); have n0_ := Aside0.mk (Kd.N_elder' (rNa_ HO186.out) (Kd.R_base ho82) hb); have n1_ := Aside0.mk (Kd.N_elder' (rNa_ HO193.out) (Kd.R_base ho82) hb); have n2_ := Aside0.mk (Kd.R_elder' (rRa_ HO202.out) (Kd.R_base ho82) hb); have n3_ := Aside0.mk (Kd.R_elder' (rRa_ HO212.out) (Kd.R_base ho82) hb); have n4_ := Aside0.mk (Kd.R_elder' (rRa_ HO215.out) (Kd.R_base ho82) hb); have n5_ := Aside0.mk (Kd.R_elder' (rRa_ HO220.out) (Kd.R_base ho82) hb); have n6_ := Aside0.mk (Kd.N_elder' (rNa_ HO232.out) (Kd.R_base ho82) hb); have n7_ := Aside0.mk (Kd.N_elder' (rNa_ HO245.out) (Kd.R_base ho82) hb); have n8_ := Aside0.mk (Kd.R_elder' (rRa_ HO249.out) (Kd.R_base ho82) hb); have n9_ := Aside0.mk (Kd.R_elder' (rRa_ HO253.out) (Kd.R_base ho82) hb); have n10_ := Aside0.mk (Kd.R_lower (Kd.R_new' (Kd.R_new' (Kd.R_new' (Kd.R_new' (Kd.R_new' (Kd.R_new' ho82 (Kd.R_lt (rRa_ HO202.out))) (Kd.R_lt (rRa_ HO212.out))) (Kd.R_lt (rRa_ HO215.out))) (Kd.R_lt (rRa_ HO220.out))) (Kd.R_lt (rRa_ HO249.out))) (Kd.R_lt (rRa_ HO253.out))) (below_size bw_)); have n11_ := Aside0.mk (below_step bw_ hb); clear HO186; clear HO193; clear HO202; clear HO212; clear HO215; clear HO220; clear HO232; clear HO245; clear HO249; clear HO253; clear HB; have HO186 := n0_; have HO193 := n1_; have HO202 := n2_; have HO212 := n3_; have HO215 := n4_; have HO220 := n5_; have HO232 := n6_; have HO245 := n7_; have HO249 := n8_; have HO253 := n9_; have HO257 := n10_; have HB := n11_; clear n0_ n1_ n2_ n3_ n4_ n5_ n6_ n7_ n8_ n9_ n10_ n11_; clear hb ho82; obtain ⟨Ao83, co83, eo83⟩ := Kd.R_slice HO220.out; subst eo83; obtain ⟨Ao84, co84, eo84⟩ := Kd.R_slice HO257.out; subst eo84) | (go_at_call 22; (with_reducible refine (toruslaw07_is.calls k _ _ t216 t218 _ _ y255 true _ ?side1 ?side2 ?side3 ?side4 A19.out).mono ?_); (case side1 => repeat (first | exact (Kd.R_reads' HO220.out).2.2 | (with_reducible refine Kd.C_alloc ?_ _) | (with_reducible refine Kd.C_drewN ?_ _) | (with_reducible refine Kd.C_drew ?_))); (case side2 => exact (Kd.R_reads' HO220.out).2.1); (case side3 => repeat (first | exact (Kd.R_reads' HO257.out).2.2 | (with_reducible refine Kd.C_alloc ?_ _) | (with_reducible refine Kd.C_drewN ?_ _) | (with_reducible refine Kd.C_drew ?_))); (case side4 => exact (Kd.R_reads' HO257.out).2.1); rintro e w' ⟨rfl, ⟨nd, rfl⟩⟩) | ((with_reducible refine gate_dst (N := 98) rfl ?_); (try (refine gate_guard (by rfl) ?_; dsimp only)); refine Kd.R_lit (Kd.int .i64) _ 3 ?hg (N := 98) ?hd (xs := ([5] : List Int)) (inner := [.int .i64 5]) (ok := fun _ => True) (okp := fun _ => True) ?hr ?hp (fun _ hk => hk) trivial (Below.refl _ _) (Nat.le_refl _) (by simp) ?_; (case hd => rfl); (case hg => rfl); (case hr => first | (go_simp; done) | (go_simp; rfl)); (case hp => exact (Reps.one (show Kd.M (Kd.int .i64) _ _ _ 5 [.int .i64 5] from rfl) (Reps.none _ _))); intro v260 w85 ho86 hb hg_ hnew_; clear hg_ hnew_; (first | rw [← Ny259.out] at ho86 | (simp only [Int.reduceToNat] at ho86; rw [← Ny259.out] at ho86)); have n0_ := Aside0.mk (Kd.N_elder' (rNa_ HO186.out) (Kd.R_base ho86) hb); have n1_ := Aside0.mk (Kd.N_elder' (rNa_ HO193.out) (Kd.R_base ho86) hb); have n2_ := Aside0.mk (Kd.R_elder' (rRa_ HO202.out) (Kd.R_base ho86) hb); have n3_ := Aside0.mk (Kd.R_elder' (rRa_ HO212.out) (Kd.R_base ho86) hb); have n4_ := Aside0.mk (Kd.R_elder' (rRa_ HO215.out) (Kd.R_base ho86) hb); have n5_ := Aside0.mk (Kd.R_elder' (rRa_ HO220.out) (Kd.R_base ho86) hb); have n6_ := Aside0.mk (Kd.N_elder' (rNa_ HO232.out) (Kd.R_base ho86) hb); have n7_ := Aside0.mk (Kd.N_elder' (rNa_ HO245.out) (Kd.R_base ho86) hb); have n8_ := Aside0.mk (Kd.R_elder' (rRa_ HO249.out) (Kd.R_base ho86) hb); have n9_ := Aside0.mk (Kd.R_elder' (rRa_ HO253.out) (Kd.R_base ho86) hb); have n10_ := Aside0.mk (Kd.R_elder' (rRa_ HO257.out) (Kd.R_base ho86) hb); have n11_ := Aside0.mk (Kd.R_lower (Kd.R_new' (Kd.R_new' (Kd.R_new' (Kd.R_new' (Kd.R_new' (Kd.R_new' (Kd.R_new' ho86 (Kd.R_lt (rRa_ HO202.out))) (Kd.R_lt (rRa_ HO212.out))) (Kd.R_lt (rRa_ HO215.out))) (Kd.R_lt (rRa_ HO220.out))) (Kd.R_lt (rRa_ HO249.out))) (Kd.R_lt (rRa_ HO253.out))) (Kd.R_lt (rRa_ HO257.out))) (below_size bw_)); have n12_ := Aside0.mk (below_step bw_ hb); clear HO186; clear HO193; clear HO202; clear HO212; clear HO215; clear HO220; clear HO232; clear HO245; clear HO249; clear HO253; clear HO257; clear HB; have HO186 := n0_; have HO193 := n1_; have HO202 := n2_; have HO212 := n3_; have HO215 := n4_; have HO220 := n5_; have HO232 := n6_; have HO245 := n7_; have HO249 := n8_; have HO253 := n9_; have HO257 := n10_; have HO261 := n11_; have HB := n12_; clear n0_ n1_ n2_ n3_ n4_ n5_ n6_ n7_ n8_ n9_ n10_ n11_ n12_; clear hb ho86) | ((with_reducible refine gate_dst (N := 99) rfl ?_); (try (refine gate_guard (by rfl) ?_; dsimp only)); refine Kd.R_lit (Kd.int .i64) _ 3 ?hg (N := 99) ?hd (xs := ([0, 1] : List Int)) (inner := [.int .i64 0, .int .i64 1]) (ok := fun _ => True) (okp := fun _ => True) ?hr ?hp (fun _ hk => hk) trivial (Below.refl _ _) (Nat.le_refl _) (by simp) ?_; (case hd => rfl); (case hg => rfl); (case hr => first | (go_simp; done) | (go_simp; rfl)); (case hp => exact (Reps.one (show Kd.M (Kd.int .i64) _ _ _ 0 [.int .i64 0] from rfl) (Reps.one (show Kd.M (Kd.int .i64) _ _ _ 1 [.int .i64 1] from rfl) (Reps.none _ _)))); intro v263 w87 ho88 hb hg_ hnew_; clear hg_ hnew_; (first | rw [← Ny262.out] at ho88 | (simp only [Int.reduceToNat] at ho88; rw [← Ny262.out] at ho88)); have n0_ := Aside0.mk (Kd.N_elder' (rNa_ HO186.out) (Kd.R_base ho88) hb); have n1_ := Aside0.mk (Kd.N_elder' (rNa_ HO193.out) (Kd.R_base ho88) hb); have n2_ := Aside0.mk (Kd.R_elder' (rRa_ HO202.out) (Kd.R_base ho88) hb); have n3_ := Aside0.mk (Kd.R_elder' (rRa_ HO212.out) (Kd.R_base ho88) hb); have n4_ := Aside0.mk (Kd.R_elder' (rRa_ HO215.out) (Kd.R_base ho88) hb); have n5_ := Aside0.mk (Kd.R_elder' (rRa_ HO220.out) (Kd.R_base ho88) hb); have n6_ := Aside0.mk (Kd.N_elder' (rNa_ HO232.out) (Kd.R_base ho88) hb); have n7_ := Aside0.mk (Kd.N_elder' (rNa_ HO245.out) (Kd.R_base ho88) hb); have n8_ := Aside0.mk (Kd.R_elder' (rRa_ HO249.out) (Kd.R_base ho88) hb); have n9_ := Aside0.mk (Kd.R_elder' (rRa_ HO253.out) (Kd.R_base ho88) hb); have n10_ := Aside0.mk (Kd.R_elder' (rRa_ HO257.out) (Kd.R_base ho88) hb); have n11_ := Aside0.mk (Kd.R_elder' (rRa_ HO261.out) (Kd.R_base ho88) hb); have n12_ := Aside0.mk (Kd.R_lower (Kd.R_new' (Kd.R_new' (Kd.R_new' (Kd.R_new' (Kd.R_new' (Kd.R_new' (Kd.R_new' (Kd.R_new' ho88 (Kd.R_lt (rRa_ HO202.out))) (Kd.R_lt (rRa_ HO212.out))) (Kd.R_lt (rRa_ HO215.out))) (Kd.R_lt (rRa_ HO220.out))) (Kd.R_lt (rRa_ HO249.out))) (Kd.R_lt (rRa_ HO253.out))) (Kd.R_lt (rRa_ HO257.out))) (Kd.R_lt (rRa_ HO261.out))) (below_size bw_)); have n13_ := Aside0.mk (below_step bw_ hb); clear HO186; clear HO193; clear HO202; clear HO212; clear HO215; clear HO220; clear HO232; clear HO245; clear HO249; clear HO253; clear HO257; clear HO261; clear HB; have HO186 := n0_; have HO193 := n1_; have HO202 := n2_; have HO212 := n3_; have HO215 := n4_; have HO220 := n5_; have HO232 := n6_; have HO245 := n7_; have HO249 := n8_; have HO253 := n9_; have HO257 := n10_; have HO261 := n11_; have HO264 := n12_; have HB := n13_; clear n0_ n1_ n2_ n3_ n4_ n5_ n6_ n7_ n8_ n9_ n10_ n11_ n12_ n13_; clear hb ho88; obtain ⟨Ao89, co89, eo89⟩ := Kd.R_slice HO261.out; subst eo89; obtain ⟨Ao90, co90, eo90⟩ := Kd.R_slice HO264.out; subst eo90) | (go_at_call 20; (with_reducible refine (simplex_Cmp.calls k _ _ y259 _ _ y262 t265 _ ?side1 ?side2 ?side3 ?side4 A22.out).mono ?_); (case side1 => repeat (first | exact (Kd.R_reads' HO261.out).2.2 | (with_reducible refine Kd.C_alloc ?_ _) | (with_reducible refine Kd.C_drewN ?_ _) | (with_reducible refine Kd.C_drew ?_))); (case side2 => exact (Kd.R_reads' HO261.out).2.1); (case side3 => repeat (first | exact (Kd.R_reads' HO264.out).2.2 | (with_reducible refine Kd.C_alloc ?_ _) | (with_reducible refine Kd.C_drewN ?_ _) | (with_reducible refine Kd.C_drew ?_))); (case side4 => exact (Kd.R_reads' HO264.out).2.1); rintro e w' ⟨rfl, ⟨nd, rfl⟩⟩))
           go_ret
           exact ⟨by first | rfl | (simp [errW_none, errW_some] <;> rfl) | (simp [*, errW_none, errW_some] <;> rfl), bw_⟩
          ·rw [if_neg c21] at H
           exact absurd H (by simp)
         ·replace c20 := Bool.eq_false_iff.mpr c20
          subst c20
          rw [if_neg (show ¬ (false = true) by decide)] at H
          exact absurd H (by simp)
        ·replace c18 := Bool.eq_false_iff.mpr c18
         subst c18
         rw [if_neg (show ¬ (false = true) by decide)] at H
         exact absurd H (by simp)
       ·rw [if_neg c16] at H
        exact absurd H (by simp)
      ·rw [if_neg c15] at H
       exact absurd H (by simp)
     ·replace c14 := Bool.eq_false_iff.mpr c14
      subst c14
      rw [if_neg (show ¬ (false = true) by decide)] at H
      exact absurd H (by simp)
    ·replace c12 := Bool.eq_false_iff.mpr c12
     subst c12
     rw [if_neg (show ¬ (false = true) by decide)] at H
     exact absurd H (by simp)
   ·rw [if_neg c10] at H
    exact absurd H (by simp)
  ·replace c9 := Bool.eq_false_iff.mpr c9
   subst c9
   rw [if_neg (show ¬ (false = true) by decide)] at H
   exact absurd H (by simp)
 ·rw [if_neg c7] at H
  exact absurd H (by simp)

end Go.Proofs.YticckanjfdcpaaaDoor.PSimplex
namespace Go.Proofs.YticckanjfdcpaaaDoor.PSimplex
open Go.RowKit Go.Proofs.YticckanjfdcpaaaDoorW.PrintWords Go.Proofs.YticckanjfdcpaaaDoorW.PrintLast Go.Proofs.YticckanjfdcpaaaDoorW.PrintMore
attribute [local go_sem] max2_int min2_int max_two min_two max_three min_three max_four min_four   -- for this text's walks alone
set_option linter.unusedVariables false
set_option linter.unusedSimpArgs false

/-! ### torusref07_Check: function 28 -/
mutual
def torusref07_Check.l0 : Nat → List Int → Int → Option (Int)
 |0, _, _ => none
 |k + 1, x0, x3 => if x3 < (x0.length : Int) then (if 0 ≤ x3 then (if (rd x0 x3) < 0 then (some 1) else (if (rd x0 x3) ≥ 64 then (some 1) else (torusref07_Check.l0 k x0 (wrap64 (x3 + 1))))) else (none)) else (torusref07_Check.l1 k x0 1)
def torusref07_Check.l1 : Nat → List Int → Int → Option (Int)
 |0, _, _ => none
 |k + 1, x0, x4 => if x4 < (x0.length : Int) then (if 0 ≤ x4 then (if 0 ≤ (wrap64 (x4 - 1)) then (if (wrap64 (x4 - 1)) < (x0.length : Int) then (if (rd x0 x4) ≤ (rd x0 (wrap64 (x4 - 1))) then (some 6) else (torusref07_Check.l1 k x0 (wrap64 (x4 + 1)))) else (none)) else (none)) else (none)) else (some 0)
end
def torusref07_Check.f (k : Nat) (l0 : List Int) : Option (Int) := if (l0.length : Int) = 0 then (some 1) else (if (l0.length : Int) > 5 then (some 3) else (torusref07_Check.l0 k l0 0))
theorem torusref07_Check.mono_l : ∀ k, (∀ y0 y1, LeO (torusref07_Check.l0 k y0 y1) (torusref07_Check.l0 (k + 1) y0 y1)) ∧ (∀ y0 y1, LeO (torusref07_Check.l1 k y0 y1) (torusref07_Check.l1 (k + 1) y0 y1))
 |0 => ⟨fun _ _ r h => by simp [torusref07_Check.l0] at h, fun _ _ r h => by simp [torusref07_Check.l1] at h⟩
 |k + 1 => by
  obtain ⟨ih0, ih1⟩ := torusref07_Check.mono_l k
  refine ⟨?_, ?_⟩
  ·intro y0 y1
   unfold torusref07_Check.l0
   repeat' first
   |(with_reducible exact ih0 _ _)
   |(with_reducible exact ih1 _ _)
   |(with_reducible exact LeO.refl _)
   |(with_reducible exact LeO.none _)
   |(with_reducible refine LeO.ite ?_ ?_)
   |(with_reducible refine LeO.bind ?_ (fun _ => ?_))
  ·intro y0 y1
   unfold torusref07_Check.l1
   repeat' first
   |(with_reducible exact ih0 _ _)
   |(with_reducible exact ih1 _ _)
   |(with_reducible exact LeO.refl _)
   |(with_reducible exact LeO.none _)
   |(with_reducible refine LeO.ite ?_ ?_)
   |(with_reducible refine LeO.bind ?_ (fun _ => ?_))
theorem torusref07_Check.mono : ∀ a0 k, LeO (torusref07_Check.f k a0) (torusref07_Check.f (k + 1) a0) := by
 intro a0 k
 obtain ⟨ih0, ih1⟩ := torusref07_Check.mono_l k
 unfold torusref07_Check.f
 repeat' first
   |(with_reducible exact ih0 _ _)
   |(with_reducible exact ih1 _ _)
   |(with_reducible exact LeO.refl _)
   |(with_reducible exact LeO.none _)
   |(with_reducible refine LeO.ite ?_ ?_)
   |(with_reducible refine LeO.bind ?_ (fun _ => ?_))
set_option maxHeartbeats 8000000 in
set_option maxRecDepth 100000 in
theorem torusref07_Check.calls (k : Nat) (A0 : Option Addr) (c0 : Nat) (l0 : List Int) (r : Int) (w : World) (hr0 : Kd.C (Kd.int .i64) w A0 l0.length l0) (hc0 : l0.length ≤ c0) (h : torusref07_Check.f k l0 = some r) :
  Calls Tryd.prog 28 #[.slice A0 l0.length c0] w fun e w' => e = .returned (.int .i64 r) ∧ Drawn0 w w' := by
 have HR0 := Aside0.mk hr0
 have HC0 := Aside0.mk hc0
 clear hr0 hc0
 have H : (if (l0.length : Int) = 0 then (some 1) else (if (l0.length : Int) > 5 then (some 3) else (torusref07_Check.l0 k l0 0))) = some r := h
 clear h
 by_cases c2 : (l0.length : Int) = 0
 ·rw [if_pos c2] at H
  have c2b0 : ((l0.length : Int) == 0) = true := beq_iff_eq.mpr c2
  have c2b1 : ((l0.length : Int) != 0) = false := bne_eq_false_iff_eq.mpr c2
  clear c2
  obtain rfl := Option.some.inj H
  go_enter Tryd.func28, Tryd.ntmps28
  go_wp2
  repeat (go_quiet (fail); try go_wp2)
  go_ret
  exact ⟨sd_, dr_⟩
 ·rw [if_neg c2] at H
  have c2b0 : ((l0.length : Int) == 0) = false := beq_eq_false_iff_ne.mpr c2
  have c2b1 : ((l0.length : Int) != 0) = true := bne_iff_ne.mpr c2
  have c2b2 : ¬ (l0 = []) := fun h_ => c2 (by rw [h_]; rfl)
  by_cases c3 : (l0.length : Int) > 5
  ·rw [if_pos c3] at H
   have c3b0 : decide (5 < (l0.length : Int)) = true := decide_eq_true c3
   have c3b1 : decide (5 < l0.length) = true := decide_eq_true (by omega)
   clear c3
   obtain rfl := Option.some.inj H
   go_enter Tryd.func28, Tryd.ntmps28
   go_wp2
   repeat (go_quiet (fail); try go_wp2)
   go_ret
   exact ⟨sd_, dr_⟩
  ·rw [if_neg c3] at H
   have c3b0 : decide (5 < (l0.length : Int)) = false := decide_eq_false c3
   have c3b1 : decide (5 < l0.length) = false := decide_eq_false (by omega)
   clear c3
   have H' := Aside0.mk H
   clear H
   go_enter Tryd.func28, Tryd.ntmps28
   go_wp2
   repeat (go_quiet (fail); try go_wp2)
   go_loopg [3] k (fun kq v3 w' => ∃ (x3_1 : Int), v3 = .int .i64 x3_1 ∧ Aside0 (torusref07_Check.l0 kq l0 x3_1 = some r) ∧ Aside0 (kq ≤ k) ∧ Drawn0 w w')
   case atStart => exact ⟨(0), sd_, H', ⟨Nat.le_refl _⟩, dr_⟩
   case round =>
    clear H'
    try clear c2
    try clear c2b0
    try clear c2b1
    try clear c2b2
    try clear p2
    try clear c3
    try clear c3b0
    try clear c3b1
    obtain ⟨x3_1, rfl, HA, HK1, ⟨m1, rfl⟩⟩ := hrel
    cases gk with
    |zero => exact absurd HA.out (by simp [torusref07_Check.l0])
    |succ k1 =>
     have H := HA.out
     clear HA
     simp only [torusref07_Check.l0] at H
     by_cases c4 : x3_1 < (l0.length : Int)
     ·rw [if_pos c4] at H
      have c4b0 : decide (x3_1 < (l0.length : Int)) = true := decide_eq_true c4
      clear c4
      by_cases c5 : 0 ≤ x3_1
      ·rw [if_pos c5] at H
       have c5b0 : decide (0 ≤ x3_1) = true := decide_eq_true c5
       clear c5
       by_cases c6 : (rd l0 x3_1) < 0
       ·rw [if_pos c6] at H
        have c6b0 : decide ((rd l0 x3_1) < 0) = true := decide_eq_true c6
        clear c6
        obtain rfl := Option.some.inj H
        have p266 : 0 ≤ (x3_1 : Int) := of_decide_eq_true as_
        have q266 : x3_1 < (l0.length : Int) := of_decide_eq_true as_
        obtain ⟨ad266, e266, hx266_0⟩ := Kd.at_int HR0.out x3_1 p266 q266
        cases e266
        replace p266 := eq_true p266
        replace q266 := eq_true q266
        go_wp2
        repeat (go_quiet (fail); try go_wp2)
        go_ret
        exact ⟨sd_, dr_⟩
       ·rw [if_neg c6] at H
        have c6b0 : decide ((rd l0 x3_1) < 0) = false := decide_eq_false c6
        clear c6
        by_cases c7 : (rd l0 x3_1) ≥ 64
        ·rw [if_pos c7] at H
         have c7b0 : decide (64 ≤ (rd l0 x3_1)) = true := decide_eq_true c7
         clear c7
         obtain rfl := Option.some.inj H
         have p266 : 0 ≤ (x3_1 : Int) := of_decide_eq_true as_
         have q266 : x3_1 < (l0.length : Int) := of_decide_eq_true as_
         obtain ⟨ad266, e266, hx266_0⟩ := Kd.at_int HR0.out x3_1 p266 q266
         cases e266
         replace p266 := eq_true p266
         replace q266 := eq_true q266
         have p267 : 0 ≤ (x3_1 : Int) := of_decide_eq_true as_
         have q267 : x3_1 < (l0.length : Int) := of_decide_eq_true as_
         obtain ⟨ad267, e267, hx267_0⟩ := Kd.at_int HR0.out x3_1 p267 q267
         obtain rfl : ad266 = ad267 := (by injection e267)
         replace p267 := eq_true p267
         replace q267 := eq_true q267
         go_wp2
         repeat (go_quiet (fail); try go_wp2)
         go_ret
         exact ⟨sd_, dr_⟩
        ·rw [if_neg c7] at H
         have c7b0 : decide (64 ≤ (rd l0 x3_1)) = false := decide_eq_false c7
         clear c7
         have H' := Aside0.mk H
         clear H
         have p266 : 0 ≤ (x3_1 : Int) := of_decide_eq_true as_
         have q266 : x3_1 < (l0.length : Int) := of_decide_eq_true as_
         obtain ⟨ad266, e266, hx266_0⟩ := Kd.at_int HR0.out x3_1 p266 q266
         cases e266
         replace p266 := eq_true p266
         replace q266 := eq_true q266
         have p267 : 0 ≤ (x3_1 : Int) := of_decide_eq_true as_
         have q267 : x3_1 < (l0.length : Int) := of_decide_eq_true as_
         obtain ⟨ad267, e267, hx267_0⟩ := Kd.at_int HR0.out x3_1 p267 q267
         obtain rfl : ad266 = ad267 := (by injection e267)
         replace p267 := eq_true p267
         replace q267 := eq_true q267
         go_wp2
         repeat (go_quiet (fail); try go_wp2)
         go_roundg k1
         case measure => have := HK1.out; omega
         case rel => exact ⟨(wrap64 (x3_1 + 1)), sd_, H', ⟨by have := HK1.out; omega⟩, dr_⟩
      ·rw [if_neg c5] at H
       exact absurd H (by simp)
     ·rw [if_neg c4] at H
      have c4b0 : decide (x3_1 < (l0.length : Int)) = false := decide_eq_false c4
      clear c4
      have H' := Aside0.mk H
      clear H
      go_wp2
      repeat (go_quiet (fail); try go_wp2)
      go_loopg [4] k1 (fun kq v4 w' => ∃ (x4_2 : Int), v4 = .int .i64 x4_2 ∧ Aside0 (torusref07_Check.l1 kq l0 x4_2 = some r) ∧ Aside0 (kq ≤ k1) ∧ Drawn0 w w')
      case atStart => exact ⟨(1), sd_, H', ⟨Nat.le_refl _⟩, dr_⟩
      case round =>
       clear H'
       try clear c2
       try clear c2b0
       try clear c2b1
       try clear c2b2
       try clear p2
       try clear q2
       try clear hx2
       try clear c3
       try clear c3b0
       try clear c3b1
       try clear c4
       try clear c4b0
       try clear c5
       try clear c5b0
       try clear c6
       try clear c6b0
       try clear p6
       try clear c7
       try clear c7b0
       try clear hx266_0
       try clear hx267_0
       try clear p2
       try clear p266
       try clear p267
       try clear q266
       try clear q267
       obtain ⟨x4_2, rfl, HA, HK2, ⟨m2, rfl⟩⟩ := hrel
       cases gk with
       |zero => exact absurd HA.out (by simp [torusref07_Check.l1])
       |succ k2 =>
        have H := HA.out
        clear HA
        simp only [torusref07_Check.l1] at H
        by_cases c8 : x4_2 < (l0.length : Int)
        ·rw [if_pos c8] at H
         have c8b0 : decide (x4_2 < (l0.length : Int)) = true := decide_eq_true c8
         clear c8
         by_cases c9 : 0 ≤ x4_2
         ·rw [if_pos c9] at H
          have c9b0 : decide (0 ≤ x4_2) = true := decide_eq_true c9
          clear c9
          obtain ⟨ji10, hji10⟩ : ∃ j_ : Int, (wrap64 (x4_2 - 1)) = j_ := ⟨_, rfl⟩
          replace H : (if 0 ≤ (ji10) then (if (ji10) < (l0.length : Int) then (if (rd l0 x4_2) ≤ (rd l0 (ji10)) then (some 6) else (torusref07_Check.l1 k2 l0 (wrap64 (x4_2 + 1)))) else (none)) else (none)) = some r := by first | (rw [hji10] at H; exact H) | (simp only [hji10] at H ⊢; exact H)
          have hji10w : (IntKind.i64.wrap (x4_2 - 1)) = ji10 := (i64_w _).trans hji10
          by_cases c11 : 0 ≤ (ji10)
          ·rw [if_pos c11] at H
           have c11b0 : decide (0 ≤ (ji10)) = true := decide_eq_true c11
           clear c11
           by_cases c12 : (ji10) < (l0.length : Int)
           ·rw [if_pos c12] at H
            have c12b0 : decide ((ji10) < (l0.length : Int)) = true := decide_eq_true c12
            clear c12
            by_cases c13 : (rd l0 x4_2) ≤ (rd l0 (ji10))
            ·rw [if_pos c13] at H
             have c13b0 : decide ((rd l0 x4_2) ≤ (rd l0 (ji10))) = true := decide_eq_true c13
             clear c13
             obtain rfl := Option.some.inj H
             have p268 : 0 ≤ (x4_2 : Int) := of_decide_eq_true as_
             have q268 : x4_2 < (l0.length : Int) := of_decide_eq_true as_
             obtain ⟨ad268, e268, hx268_0⟩ := Kd.at_int HR0.out x4_2 p268 q268
             cases e268
             replace p268 := eq_true p268
             replace q268 := eq_true q268
             have p269 : 0 ≤ ((ji10) : Int) := of_decide_eq_true as_
             have q269 : (ji10) < (l0.length : Int) := of_decide_eq_true as_
             obtain ⟨ad269, e269, hx269_0⟩ := Kd.at_int HR0.out (ji10) p269 q269
             obtain rfl : ad268 = ad269 := (by injection e269)
             replace p269 := eq_true p269
             replace q269 := eq_true q269
             go_wp2
             repeat (go_quiet (fail); try go_wp2)
             go_ret
             exact ⟨by first | rfl | (simp; done) | (simp only [← hji10] <;> (first | rfl | simp)) | (simp [*]; done), dr_⟩
            ·rw [if_neg c13] at H
             have c13b0 : decide ((rd l0 x4_2) ≤ (rd l0 (ji10))) = false := decide_eq_false c13
             clear c13
             have H' := Aside0.mk H
             clear H
             have p268 : 0 ≤ (x4_2 : Int) := of_decide_eq_true as_
             have q268 : x4_2 < (l0.length : Int) := of_decide_eq_true as_
             obtain ⟨ad268, e268, hx268_0⟩ := Kd.at_int HR0.out x4_2 p268 q268
             cases e268
             replace p268 := eq_true p268
             replace q268 := eq_true q268
             have p269 : 0 ≤ ((ji10) : Int) := of_decide_eq_true as_
             have q269 : (ji10) < (l0.length : Int) := of_decide_eq_true as_
             obtain ⟨ad269, e269, hx269_0⟩ := Kd.at_int HR0.out (ji10) p269 q269
             obtain rfl : ad268 = ad269 := (by injection e269)
             replace p269 := eq_true p269
             replace q269 := eq_true q269
             go_wp2
             repeat (go_quiet (fail); try go_wp2)
             go_roundg k2
             case measure => have := HK1.out; have := HK2.out; omega
             case rel => exact ⟨(wrap64 (x4_2 + 1)), sd_, H', ⟨by have := HK1.out; have := HK2.out; omega⟩, dr_⟩
           ·rw [if_neg c12] at H
            exact absurd H (by simp)
          ·rw [if_neg c11] at H
           exact absurd H (by simp)
         ·rw [if_neg c9] at H
          exact absurd H (by simp)
        ·rw [if_neg c8] at H
         have c8b0 : decide (x4_2 < (l0.length : Int)) = false := decide_eq_false c8
         clear c8
         obtain rfl := Option.some.inj H
         go_wp2
         repeat (go_quiet (fail); try go_wp2)
         go_ret
         exact ⟨sd_, dr_⟩

end Go.Proofs.YticckanjfdcpaaaDoor.PSimplex
namespace Go.Proofs.YticckanjfdcpaaaDoor.PSimplex
open Go.RowKit Go.Proofs.YticckanjfdcpaaaDoorW.PrintWords Go.Proofs.YticckanjfdcpaaaDoorW.PrintLast Go.Proofs.YticckanjfdcpaaaDoorW.PrintMore
attribute [local go_sem] max2_int min2_int max_two min_two max_three min_three max_four min_four   -- for this text's walks alone
set_option linter.unusedVariables false
set_option linter.unusedSimpArgs false

/-! ### torusref07_Without: function 50 -/
def torusref07_Without.l0 : Nat → List Int → Int → List Int → Int → Option (List Int)
 |0, _, _, _, _ => none
 |k + 1, x0, x1, x5, x6 => if x6 < (x0.length : Int) then (if x6 = x1 then (torusref07_Without.l0 k x0 x1 x5 (wrap64 (x6 + 1))) else (if 0 ≤ x6 then (if x5.length < 17592186044416 then (torusref07_Without.l0 k x0 x1 (x5 ++ [rd x0 x6]) (wrap64 (x6 + 1))) else (none)) else (none))) else (some x5)
def torusref07_Without.f (k : Nat) (l0 : List Int) (a1 : Int) : Option (List Int) := torusref07_Without.l0 k l0 a1 ([] : List Int) 0
theorem torusref07_Without.mono_l : ∀ k, (∀ y0 y1 y2 y3, LeO (torusref07_Without.l0 k y0 y1 y2 y3) (torusref07_Without.l0 (k + 1) y0 y1 y2 y3))
 |0 => fun _ _ _ _ r h => by simp [torusref07_Without.l0] at h
 |k + 1 => by
  have ih0 := torusref07_Without.mono_l k
  ·intro y0 y1 y2 y3
   unfold torusref07_Without.l0
   repeat' first
   |(with_reducible exact ih0 _ _ _ _)
   |(with_reducible exact LeO.refl _)
   |(with_reducible exact LeO.none _)
   |(with_reducible refine LeO.ite ?_ ?_)
   |(with_reducible refine LeO.bind ?_ (fun _ => ?_))
theorem torusref07_Without.mono : ∀ a0 a1 k, LeO (torusref07_Without.f k a0 a1) (torusref07_Without.f (k + 1) a0 a1) := by
 intro a0 a1 k
 have ih0 := torusref07_Without.mono_l k
 unfold torusref07_Without.f
 repeat' first
   |(with_reducible exact ih0 _ _ _ _)
   |(with_reducible exact LeO.refl _)
   |(with_reducible exact LeO.none _)
   |(with_reducible refine LeO.ite ?_ ?_)
   |(with_reducible refine LeO.bind ?_ (fun _ => ?_))
set_option maxHeartbeats 8000000 in
set_option maxRecDepth 100000 in
theorem torusref07_Without.calls (k : Nat) (A0 : Option Addr) (c0 : Nat) (l0 : List Int) (a1 : Int) (r : List Int) (w : World) (hr0 : Kd.C (Kd.int .i64) w A0 l0.length l0) (hc0 : l0.length ≤ c0) (h : torusref07_Without.f k l0 a1 = some r) :
  Calls Tryd.prog 50 #[.slice A0 l0.length c0, .int .i64 a1] w fun e w' => ∃ v0_ : Value, e = .returned (v0_) ∧ Kd.R (Kd.int .i64) 3 w' w.heap.size (fun _ => True) v0_ r ∧ Below w.heap.size w w' := by
 have HR0 := Aside0.mk hr0
 have HC0 := Aside0.mk hc0
 clear hr0 hc0
 have HB := Aside0.mk (Below.refl w.heap.size w)
 have H : (torusref07_Without.l0 k l0 a1 ([] : List Int) 0) = some r := h
 clear h
 have H' := Aside0.mk H
 clear H
 go_enter Tryd.func50, Tryd.ntmps50
 go_wp2
 go_loopg [5, 6] k (fun kq v5 v6 w' => ∃ (x5_1 : List Int) (x6_1 : Int), v6 = .int .i64 x6_1 ∧ Aside0 (torusref07_Without.l0 kq l0 a1 x5_1 x6_1 = some r) ∧ Aside0 (kq ≤ k) ∧ Aside0 (Kd.R (Kd.int .i64) 3 w' w.heap.size (fun _ => True) v5 x5_1) ∧ Aside0 (Below w.heap.size w w'))
 case atStart => exact ⟨(([] : List Int)), (0), sd_, H', ⟨Nat.le_refl _⟩, ⟨by first | exact Kd.R_nil _ _ _ _ _ | exact Kd.N_nil _ _ _ _ _ | exact Kd.V_nil _ _ _ _ _ | exact Kd.Q_nil _ _ _ _ _ | exact Kd.S_nil _ _ _ _ _⟩, ⟨bw_⟩⟩
 case round =>
  clear H'
  try clear p2
  obtain ⟨x5_1, x6_1, rfl, HA, HK1, HO_5, HB⟩ := hrel
  cases gk with
  |zero => exact absurd HA.out (by simp [torusref07_Without.l0])
  |succ k1 =>
   have H := HA.out
   clear HA
   simp only [torusref07_Without.l0] at H
   by_cases c3 : x6_1 < (l0.length : Int)
   ·rw [if_pos c3] at H
    have c3b0 : decide (x6_1 < (l0.length : Int)) = true := decide_eq_true c3
    clear c3
    by_cases c4 : x6_1 = a1
    ·rw [if_pos c4] at H
     have c4b0 : (x6_1 == a1) = true := beq_iff_eq.mpr c4
     have c4b1 : (x6_1 != a1) = false := bne_eq_false_iff_eq.mpr c4
     clear c4
     have H' := Aside0.mk H
     clear H
     go_wp2
     go_roundg k1
     case measure => have := HK1.out; omega
     case rel => exact ⟨(x5_1), (wrap64 (x6_1 + 1)), sd_, H', ⟨by have := HK1.out; omega⟩, ⟨rRa_ HO_5.out⟩, ⟨bw_⟩⟩
    ·rw [if_neg c4] at H
     have c4b0 : (x6_1 == a1) = false := beq_eq_false_iff_ne.mpr c4
     have c4b1 : (x6_1 != a1) = true := bne_iff_ne.mpr c4
     by_cases c5 : 0 ≤ x6_1
     ·rw [if_pos c5] at H
      have c5b0 : decide (0 ≤ x6_1) = true := decide_eq_true c5
      clear c5
      by_cases c6 : x5_1.length < 17592186044416
      ·rw [if_pos c6] at H
       have LMc6 := Aside0.mk c6
       clear c6
       obtain ⟨y448, hy448⟩ : ∃ y_ : List Int, y_ = (x5_1 ++ [rd l0 x6_1]) := ⟨_, rfl⟩
       replace H : (torusref07_Without.l0 k1 l0 a1 y448 (wrap64 (x6_1 + 1))) = some r := by first | (rw [hy448]; with_reducible exact H) | (have H2_ := (Option.bind_some _ _).symm.trans H; rw [hy448]; with_reducible exact H2_) | (have H2_ := (Option.bind_some _ _).symm.trans H; with_reducible exact H2_) | with_reducible exact H | (rw [hy448]; exact H) | exact H
       have Ny448 := Aside0.mk hy448
       clear hy448
       have H' := Aside0.mk H
       clear H
       have p447 : 0 ≤ (x6_1 : Int) := of_decide_eq_true as_
       have q447 : x6_1 < (l0.length : Int) := of_decide_eq_true as_
       obtain ⟨ad447, e447, hx447_0⟩ := Kd.at_int HR0.out x6_1 p447 q447
       cases e447
       replace hx447_0 := (HB.out.cell (World.block_lt_of_cell? w _ hx447_0)).trans hx447_0
       replace p447 := eq_true p447
       replace q447 := eq_true q447
       go_wp2_with (first | ((with_reducible refine gate_builtin (b := .append) (xs := #[.tmp 16, .tmp 21]) rfl ?_); at_builtin; refine Kd.R_append (Kd.int .i64) (w0 := w) w.heap.size rfl (.tmp 16) (.tmp 21) 22 3 (.int .i64 0) 8 rfl Tryd.underlying22 info3 rfl (by decide) (by omega) u5 x5_1 (rd l0 x6_1) [.int .i64 (rd l0 x6_1)] (fun _ => True) (fun _ => False) rfl rfl ?aP (fun _ hk => hk.elim) ?aF ?aO ?aB ?aS ?aL ?_; (case aP => exact rfl); (case aB => exact bw_); (case aF => exact (fun _ _ => trivial)); (case aO => exact (rRa_ HO_5.out)); (case aS => exact (below_size bw_)); (case aL => have := LMc6.out; omega); intro v449 w7 ho hb hg hat; rw [← Ny448.out] at ho; have n0_ := Aside0.mk (hb); have n1_ := Aside0.mk (ho); clear HB; clear HO_5; have HB := n0_; have HO450 := n1_; clear n0_ n1_; clear ho hb hg hat))
       go_roundg k1
       case measure => have := HK1.out; omega
       case rel => exact ⟨(y448), (wrap64 (x6_1 + 1)), sd_, H', ⟨by have := HK1.out; omega⟩, ⟨rRa_ HO450.out⟩, ⟨bw_⟩⟩
      ·rw [if_neg c6] at H
       exact absurd H (by simp)
     ·rw [if_neg c5] at H
      exact absurd H (by simp)
   ·rw [if_neg c3] at H
    have c3b0 : decide (x6_1 < (l0.length : Int)) = false := decide_eq_false c3
    clear c3
    obtain rfl := Option.some.inj H
    go_wp2
    go_ret
    exact ⟨_, by first | rfl | (simp [errW_none, errW_some] <;> rfl) | (simp [*, errW_none, errW_some] <;> rfl), rRa_ HO_5.out, bw_⟩

end Go.Proofs.YticckanjfdcpaaaDoor.PSimplex
namespace Go.Proofs.YticckanjfdcpaaaDoor.PSimplex
open Go.RowKit Go.Proofs.YticckanjfdcpaaaDoorW.PrintWords Go.Proofs.YticckanjfdcpaaaDoorW.PrintLast Go.Proofs.YticckanjfdcpaaaDoorW.PrintMore
attribute [local go_sem] max2_int min2_int max_two min_two max_three min_three max_four min_four   -- for this text's walks alone
set_option linter.unusedVariables false
set_option linter.unusedSimpArgs false

/-! ### torusref07_Facets: function 29 -/
def torusref07_Facets.l0 : Nat → List Int → List (List Int) → Int → Option ((List (List Int)))
 |0, _, _, _ => none
 |k + 1, x0, x3, x4 => if (x0.length : Int) > 1 then (if x4 < (x0.length : Int) then ((torusref07_Without.f k x0 x4).bind fun t451 => (if x3.length < 5864062014805 then (torusref07_Facets.l0 k x0 (x3 ++ [t451]) (wrap64 (x4 + 1))) else (none))) else (some x3)) else (some x3)
def torusref07_Facets.f (k : Nat) (l0 : List Int) : Option ((List (List Int))) := torusref07_Facets.l0 k l0 ([] : List (List Int)) 0
theorem torusref07_Facets.mono_l : ∀ k, (∀ y0 y1 y2, LeO (torusref07_Facets.l0 k y0 y1 y2) (torusref07_Facets.l0 (k + 1) y0 y1 y2))
 |0 => fun _ _ _ r h => by simp [torusref07_Facets.l0] at h
 |k + 1 => by
  have ih0 := torusref07_Facets.mono_l k
  ·intro y0 y1 y2
   unfold torusref07_Facets.l0
   repeat' first
   |(with_reducible exact ih0 _ _ _)
   |(with_reducible exact torusref07_Without.mono _ _ _)
   |(with_reducible exact LeO.refl _)
   |(with_reducible exact LeO.none _)
   |(with_reducible refine LeO.ite ?_ ?_)
   |(with_reducible refine LeO.bind ?_ (fun _ => ?_))
theorem torusref07_Facets.mono : ∀ a0 k, LeO (torusref07_Facets.f k a0) (torusref07_Facets.f (k + 1) a0) := by
 intro a0 k
 have ih0 := torusref07_Facets.mono_l k
 unfold torusref07_Facets.f
 repeat' first
   |(with_reducible exact ih0 _ _ _)
   |(with_reducible exact torusref07_Without.mono _ _ _)
   |(with_reducible exact LeO.refl _)
   |(with_reducible exact LeO.none _)
   |(with_reducible refine LeO.ite ?_ ?_)
   |(with_reducible refine LeO.bind ?_ (fun _ => ?_))
set_option maxHeartbeats 8000000 in
set_option maxRecDepth 100000 in
theorem torusref07_Facets.calls (k : Nat) (A0 : Option Addr) (c0 : Nat) (l0 : List Int) (r : List (List Int)) (w : World) (hr0 : Kd.C (Kd.int .i64) w A0 l0.length l0) (hc0 : l0.length ≤ c0) (h : torusref07_Facets.f k l0 = some r) :
  Calls Tryd.prog 29 #[.slice A0 l0.length c0] w fun e w' => ∃ v0_ : Value, e = .returned (v0_) ∧ Kd.S (Kd.slice 3 (Kd.int .i64)) 22 w' w.heap.size (fun _ => True) v0_ r ∧ Below w.heap.size w w' := by
 have HR0 := Aside0.mk hr0
 have HC0 := Aside0.mk hc0
 clear hr0 hc0
 have HB := Aside0.mk (Below.refl w.heap.size w)
 have H : (torusref07_Facets.l0 k l0 ([] : List (List Int)) 0) = some r := h
 clear h
 have H' := Aside0.mk H
 clear H
 go_enter Tryd.func29, Tryd.ntmps29
 go_wp2
 go_loopg [3, 4] k (fun kq v3 v4 w' => ∃ (x3_1 : List (List Int)) (x4_1 : Int), v4 = .int .i64 x4_1 ∧ Aside0 (torusref07_Facets.l0 kq l0 x3_1 x4_1 = some r) ∧ Aside0 (kq ≤ k) ∧ Aside0 (Kd.S (Kd.slice 3 (Kd.int .i64)) 22 w' w.heap.size (fun _ => True) v3 x3_1) ∧ Aside0 (Below w.heap.size w w'))
 case atStart => exact ⟨(([] : List (List Int))), (0), sd_, H', ⟨Nat.le_refl _⟩, ⟨by first | exact Kd.S_nil _ _ _ _ _ | exact Kd.N_nil _ _ _ _ _ | exact Kd.V_nil _ _ _ _ _ | exact Kd.Q_nil _ _ _ _ _ | exact Kd.R_nil _ _ _ _ _⟩, ⟨bw_⟩⟩
 case round =>
  clear H'
  obtain ⟨x3_1, x4_1, rfl, HA, HK1, HO_3, HB⟩ := hrel
  cases gk with
  |zero => exact absurd HA.out (by simp [torusref07_Facets.l0])
  |succ k1 =>
   have H := HA.out
   clear HA
   simp only [torusref07_Facets.l0] at H
   by_cases c2 : (l0.length : Int) > 1
   ·rw [if_pos c2] at H
    have c2b0 : decide (1 < (l0.length : Int)) = true := decide_eq_true c2
    have c2b1 : decide (1 < l0.length) = true := decide_eq_true (by omega)
    clear c2
    by_cases c3 : x4_1 < (l0.length : Int)
    ·rw [if_pos c3] at H
     have c3b0 : decide (x4_1 < (l0.length : Int)) = true := decide_eq_true c3
     clear c3
     replace H := Option.bind_eq_some_iff.mp H
     obtain ⟨t451, A40, H⟩ := H
     have A4 := Aside0.mk A40
     clear A40
     by_cases c5 : x3_1.length < 5864062014805
     ·rw [if_pos c5] at H
      have LMc5 := Aside0.mk c5
      clear c5
      obtain ⟨y454, hy454⟩ : ∃ y_ : List (List Int), y_ = (x3_1 ++ [t451]) := ⟨_, rfl⟩
      replace H : (torusref07_Facets.l0 k1 l0 y454 (wrap64 (x4_1 + 1))) = some r := by first | (rw [hy454]; with_reducible exact H) | (have H2_ := (Option.bind_some _ _).symm.trans H; rw [hy454]; with_reducible exact H2_) | (have H2_ := (Option.bind_some _ _).symm.trans H; with_reducible exact H2_) | with_reducible exact H | (rw [hy454]; exact H) | exact H
      have Ny454 := Aside0.mk hy454
      clear hy454
      have H' := Aside0.mk H
      clear H
      go_wp2_with (first | ((with_reducible refine gate_callee (f := 50) rfl ?_); refine goesL_ (some 19) rfl rfl Tryd.func50 (by kernel_rfl) rfl #[.slice A0 l0.length c0, .int .i64 x4_1] rfl ag_ ?_; (with_reducible refine (torusref07_Without.calls k1 _ _ l0 x4_1 t451 _ ?side1 ?side2 A4.out).mono ?_); (case side1 => exact cs_ (Kd.C_below HR0.out HB.out)); (case side2 => exact HC0.out); rintro e w6 ⟨v452, rfl, ho0, hb⟩; refine ⟨_, rfl, ?_⟩; have n0_ := Aside0.mk (Kd.S_elder' (rSa_ HO_3.out) (Kd.R_base ho0) hb); have n1_ := Aside0.mk (Kd.R_lower ho0 (below_size bw_)); have n2_ := Aside0.mk (below_step bw_ hb); clear HO_3; clear HB; have HO_3 := n0_; have HO453 := n1_; have HB := n2_; clear n0_ n1_ n2_; (try clear hb); (try clear hb2); (try clear hk); (try clear hi); (try clear ho0); obtain ⟨Ao8, co8, eo8⟩ := Kd.R_slice HO453.out; subst eo8) | ((with_reducible refine gate_builtin (b := .append) (xs := #[.tmp 16, .tmp 20]) rfl ?_); (try (refine gate_guard (by rfl) ?_; dsimp only)); at_builtin; refine Kd.S_append (Kd.slice 3 (Kd.int .i64)) (w0 := w) w.heap.size rfl (.tmp 16) (.tmp 20) 51 22 (.slice none 0 0) 24 rfl Tryd.underlying51 info22 rfl (by decide) (by omega) u3 x3_1 t451 [.slice Ao8 t451.length co8] (fun _ => True) (fun k_ => some k_ = (.slice Ao8 t451.length co8 : Value).ownBlock) rfl rfl ?aP (fun k_ hk_ => ((Kd.R_mono (ok' := fun k_ => ((fun _ => True)) k_ ∧ some k_ ≠ (u3 : Value).ownBlock) (Kd.R_apart' (HO453.out) (Kd.S_typed HO_3.out) (by decide)) (fun k_ hk => ⟨trivial, hk.2⟩))).1 k_ hk_.symm) ?aF ?aO ?aB ?aS ?aL ?_; (case aP => exact Kd.M_row (Kd.R_mono (Kd.R_tight rfl (Kd.R_mono (ok' := fun k_ => ((fun _ => True)) k_ ∧ some k_ ≠ (u3 : Value).ownBlock) (Kd.R_apart' (HO453.out) (Kd.S_typed HO_3.out) (by decide)) (fun k_ hk => ⟨trivial, hk.2⟩))) (fun _ h_ => h_))); (case aB => exact bw_); (case aF => exact (fun _ _ => trivial)); (case aO => exact (by (with_reducible repeat (first | apply Kd.S_alloc | apply Kd.S_drewN | apply Kd.S_drew)); exact Kd.S_mono HO_3.out (fun k_ hk => ⟨trivial, fun e_ => hk.2 e_⟩))); (case aS => exact (below_size bw_)); (case aL => have := LMc5.out; omega); intro v455 w7 ho hb hg hat; rw [← Ny454.out] at ho; have n0_ := Aside0.mk (hb); have n1_ := Aside0.mk (ho); clear HB; clear HO_3; clear HO453; have HB := n0_; have HO456 := n1_; clear n0_ n1_; clear ho hb hg hat))
      go_roundg k1
      case measure => have := HK1.out; omega
      case rel => exact ⟨(y454), (wrap64 (x4_1 + 1)), sd_, H', ⟨by have := HK1.out; omega⟩, ⟨rSa_ HO456.out⟩, ⟨bw_⟩⟩
     ·rw [if_neg c5] at H
      exact absurd H (by simp)
    ·rw [if_neg c3] at H
     have c3b0 : decide (x4_1 < (l0.length : Int)) = false := decide_eq_false c3
     clear c3
     obtain rfl := Option.some.inj H
     go_wp2
     go_ret
     exact ⟨_, by first | rfl | (simp [errW_none, errW_some] <;> rfl) | (simp [*, errW_none, errW_some] <;> rfl), rSa_ HO_3.out, bw_⟩
   ·rw [if_neg c2] at H
    have c2b0 : decide (1 < (l0.length : Int)) = false := decide_eq_false c2
    have c2b1 : decide (1 < l0.length) = false := decide_eq_false (by omega)
    clear c2
    obtain rfl := Option.some.inj H
    go_wp2
    go_ret
    exact ⟨_, by first | rfl | (simp [errW_none, errW_some] <;> rfl) | (simp [*, errW_none, errW_some] <;> rfl), rSa_ HO_3.out, bw_⟩

end Go.Proofs.YticckanjfdcpaaaDoor.PSimplex
namespace Go.Proofs.YticckanjfdcpaaaDoor.PSimplex
open Go.RowKit Go.Proofs.YticckanjfdcpaaaDoorW.PrintWords Go.Proofs.YticckanjfdcpaaaDoorW.PrintLast Go.Proofs.YticckanjfdcpaaaDoorW.PrintMore
attribute [local go_sem] max2_int min2_int max_two min_two max_three min_three max_four min_four   -- for this text's walks alone
set_option linter.unusedVariables false
set_option linter.unusedSimpArgs false

/-! ### torusref07_Put: function 51 -/
def torusref07_Put.l0 : Nat → List (List Int) → List Int → List (List Int) → Bool → Int → Option ((List (List Int)))
 |0, _, _, _, _, _ => none
 |k + 1, x0, x1, x5, x6, x7 => if x7 < (x0.length : Int) then (if 0 ≤ x7 then ((torusref07_Cmp.f k x1 (rd_L1 x0 x7)).bind fun t461 => (if t461 = 0 then (some x0) else (if t461 < 0 then (if x6 = true then (if x5.length < 5864062014805 then (torusref07_Put.l0 k x0 x1 (x5 ++ [rd_L1 x0 x7]) x6 (wrap64 (x7 + 1))) else (none)) else (if x5.length < 5864062014805 then ((some (x5 ++ [x1] : List (List Int))).bind fun y466 => (if y466.length < 5864062014805 then (torusref07_Put.l0 k x0 x1 (y466 ++ [rd_L1 x0 x7]) true (wrap64 (x7 + 1))) else (none))) else (none))) else (if x5.length < 5864062014805 then (torusref07_Put.l0 k x0 x1 (x5 ++ [rd_L1 x0 x7]) x6 (wrap64 (x7 + 1))) else (none))))) else (none)) else (if x6 = true then (some x5) else (if x5.length < 5864062014805 then (some (x5 ++ [x1])) else (none)))
def torusref07_Put.f (k : Nat) (l0 : List (List Int)) (l1 : List Int) : Option ((List (List Int))) := torusref07_Put.l0 k l0 l1 ([] : List (List Int)) false 0
theorem torusref07_Put.mono_l : ∀ k, (∀ y0 y1 y2 y3 y4, LeO (torusref07_Put.l0 k y0 y1 y2 y3 y4) (torusref07_Put.l0 (k + 1) y0 y1 y2 y3 y4))
 |0 => fun _ _ _ _ _ r h => by simp [torusref07_Put.l0] at h
 |k + 1 => by
  have ih0 := torusref07_Put.mono_l k
  ·intro y0 y1 y2 y3 y4
   unfold torusref07_Put.l0
   repeat' first
   |(with_reducible exact ih0 _ _ _ _ _)
   |(with_reducible exact torusref07_Cmp.mono _ _ _)
   |(with_reducible exact LeO.refl _)
   |(with_reducible exact LeO.none _)
   |(with_reducible refine LeO.ite ?_ ?_)
   |(with_reducible refine LeO.bind ?_ (fun _ => ?_))
theorem torusref07_Put.mono : ∀ a0 a1 k, LeO (torusref07_Put.f k a0 a1) (torusref07_Put.f (k + 1) a0 a1) := by
 intro a0 a1 k
 have ih0 := torusref07_Put.mono_l k
 unfold torusref07_Put.f
 repeat' first
   |(with_reducible exact ih0 _ _ _ _ _)
   |(with_reducible exact torusref07_Cmp.mono _ _ _)
   |(with_reducible exact LeO.refl _)
   |(with_reducible exact LeO.none _)
   |(with_reducible refine LeO.ite ?_ ?_)
   |(with_reducible refine LeO.bind ?_ (fun _ => ?_))
set_option maxHeartbeats 8000000 in
set_option maxRecDepth 100000 in
theorem torusref07_Put.calls (k : Nat) (P0_ : Nat → Prop) (A0 : Option Addr) (c0 : Nat) (l0 : List (List Int)) (P1_ : Nat → Prop) (A1 : Option Addr) (c1 : Nat) (l1 : List Int) (r : List (List Int)) (w : World) (hs0 : Kd.V (Kd.slice 3 (Kd.int .i64)) 22 w w.heap.size (fun k_ => P0_ k_) (.slice A0 l0.length c0) l0) (hs1 : Kd.V (Kd.int .i64) 3 w w.heap.size (fun k_ => P1_ k_) (.slice A1 l1.length c1) l1) (h : torusref07_Put.f k l0 l1 = some r) :
  Calls Tryd.prog 51 #[.slice A0 l0.length c0, .slice A1 l1.length c1] w fun e w' => ∃ v0_ : Value, e = .returned (v0_) ∧ Kd.V (Kd.slice 3 (Kd.int .i64)) 22 w' w.heap.size (fun k_ => ((P0_ k_ ∨ P1_ k_) ∨ w.heap.size ≤ k_)) v0_ r ∧ Below w.heap.size w w' := by
 have HO0 := Aside0.mk (show Kd.V (Kd.slice 3 (Kd.int .i64)) 22 w w.heap.size (fun k_ => ((P0_ k_ ∨ P1_ k_) ∨ w.heap.size ≤ k_)) (.slice A0 l0.length c0) l0 from Kd.V_mono hs0 (fun k_ hk => .inl (.inl hk)))
 have HO1 := Aside0.mk (show Kd.V (Kd.int .i64) 3 w w.heap.size (fun k_ => ((P0_ k_ ∨ P1_ k_) ∨ w.heap.size ≤ k_)) (.slice A1 l1.length c1) l1 from Kd.V_mono hs1 (fun k_ hk => .inl (.inr hk)))
 have HB := Aside0.mk (Below.refl w.heap.size w)
 have H : (torusref07_Put.l0 k l0 l1 ([] : List (List Int)) false 0) = some r := h
 clear h
 have H' := Aside0.mk H
 clear H
 go_enter Tryd.func51, Tryd.ntmps51
 go_wp2
 go_loopg [5, 6, 7] k (fun kq v5 v6 v7 w' => ∃ (x5_1 : List (List Int)) (x6_1 : Bool) (x7_1 : Int), v6 = .bool x6_1 ∧ v7 = .int .i64 x7_1 ∧ Aside0 (torusref07_Put.l0 kq l0 l1 x5_1 x6_1 x7_1 = some r) ∧ Aside0 (kq ≤ k) ∧ Aside0 (Kd.V (Kd.slice 3 (Kd.int .i64)) 22 w' w.heap.size (fun k_ => ((P0_ k_ ∨ P1_ k_) ∨ w.heap.size ≤ k_) ∧ some k_ ≠ (v5 : Value).ownBlock) (.slice A0 l0.length c0) l0) ∧ Aside0 (Kd.V (Kd.int .i64) 3 w' w.heap.size (fun k_ => ((P0_ k_ ∨ P1_ k_) ∨ w.heap.size ≤ k_) ∧ some k_ ≠ (v5 : Value).ownBlock) (.slice A1 l1.length c1) l1) ∧ Aside0 (Kd.N (Kd.slice 3 (Kd.int .i64)) 22 w' w.heap.size (fun k_ => ((P0_ k_ ∨ P1_ k_) ∨ w.heap.size ≤ k_)) v5 x5_1) ∧ Aside0 (Below w.heap.size w w'))
 case atStart => exact ⟨(([] : List (List Int))), (false), (0), sd_, sd_, H', ⟨Nat.le_refl _⟩, ⟨by (with_reducible repeat (first | apply Kd.V_alloc | apply Kd.V_drewN | apply Kd.V_drew)); exact Kd.V_mono HO0.out (fun _ hk => ⟨hk, (by simp [Value.ownBlock])⟩)⟩, ⟨by (with_reducible repeat (first | apply Kd.V_alloc | apply Kd.V_drewN | apply Kd.V_drew)); exact Kd.V_mono HO1.out (fun _ hk => ⟨hk, (by simp [Value.ownBlock])⟩)⟩, ⟨by first | exact Kd.S_nil _ _ _ _ _ | exact Kd.N_nil _ _ _ _ _ | exact Kd.V_nil _ _ _ _ _ | exact Kd.Q_nil _ _ _ _ _ | exact Kd.R_nil _ _ _ _ _⟩, ⟨bw_⟩⟩
 case round =>
  clear H'
  try clear c1
  try clear p2
  obtain ⟨x5_1, x6_1, x7_1, rfl, rfl, HA, HK1, HO_0, HO_1, HO_5, HB⟩ := hrel
  cases gk with
  |zero => exact absurd HA.out (by simp [torusref07_Put.l0])
  |succ k1 =>
   have H := HA.out
   clear HA
   simp only [torusref07_Put.l0] at H
   by_cases c3 : x7_1 < (l0.length : Int)
   ·rw [if_pos c3] at H
    have c3b0 : decide (x7_1 < (l0.length : Int)) = true := decide_eq_true c3
    clear c3
    by_cases c4 : 0 ≤ x7_1
    ·rw [if_pos c4] at H
     have c4b0 : decide (0 ≤ x7_1) = true := decide_eq_true c4
     clear c4
     replace H := Option.bind_eq_some_iff.mp H
     obtain ⟨t461, A50, H⟩ := H
     have A5 := Aside0.mk A50
     clear A50
     by_cases c6 : t461 = 0
     ·rw [if_pos c6] at H
      have c6b0 : (t461 == 0) = true := beq_iff_eq.mpr c6
      have c6b1 : (t461 != 0) = false := bne_eq_false_iff_eq.mpr c6
      clear c6
      obtain rfl := Option.some.inj H
      have p460 : 0 ≤ (x7_1 : Int) := of_decide_eq_true as_
      have q460 : x7_1 < (l0.length : Int) := of_decide_eq_true as_
      obtain ⟨ad460, A460_0, c460_0, e460, hx460_0, hl460_0, hi460_0⟩ := at_L1 (Kd.V_reads' HO_0.out).2.2 x7_1 p460 q460
      cases e460
      obtain ⟨ce460, hce460, hMe460, hcc460⟩ := Kd.V_get HO_0.out [] x7_1 p460 (by first | exact q460 | exact of_decide_eq_true as_ | (have e_ := (Kd.V_reads' HO_0.out).1; omega))
      obtain ⟨ua460_0, uc460_0, rfl, ul460_0, ge460_0⟩ := Kd.FK_slice_open hMe460
      have hv460_0 := hcc460 0 _ rfl
      rw [Nat.add_zero, show ((Kd.slice 3 (Kd.int .i64))).sz = 1 from rfl, Nat.mul_one] at hv460_0
      replace hv460_0 := Option.some.inj (hv460_0.symm.trans hx460_0)
      injection hv460_0 with hva_ hvn_ hvc_
      rw [hva_] at ge460_0
      rw [hvc_] at ul460_0
      have HL460_0 := Aside0.mk (show Kd.V (Kd.int .i64) 3 _ w.heap.size _ _ (rd_L1 l0 x7_1) from Kd.V_mk ul460_0 ge460_0)
      clear hva_ hvn_ hvc_ ge460_0 ul460_0
      clear hcc460 hce460
      have HR460_0 := Aside0.mk hi460_0
      have HC460_0 := Aside0.mk hl460_0
      clear hi460_0 hl460_0
      replace p460 := eq_true p460
      replace q460 := eq_true q460
      go_wp2_with (first | ((with_reducible refine gate_callee (f := 17) rfl ?_); refine goesL_ (some 20) rfl rfl Tryd.func17 (by kernel_rfl) rfl #[.slice A1 l1.length c1, .slice A460_0 (rd_L1 l0 x7_1).length c460_0] rfl ag_ ?_; (with_reducible refine (torusref07_Cmp.calls k1 _ _ l1 _ _ (rd_L1 l0 x7_1) t461 _ ?side1 ?side2 ?side3 ?side4 A5.out).mono ?_); (case side1 => repeat (first | exact (Kd.V_reads' HO_1.out).2.2 | (with_reducible refine Kd.C_alloc ?_ _) | (with_reducible refine Kd.C_drewN ?_ _) | (with_reducible refine Kd.C_drew ?_))); (case side2 => exact (Kd.V_reads' HO_1.out).2.1); (case side3 => repeat (first | exact (by repeat (first | (with_reducible exact HR460_0.out) | (with_reducible refine Kd.C_alloc ?_ _) | (with_reducible refine Kd.C_drewN ?_ _) | (with_reducible refine Kd.C_drew ?_) | exact HR460_0.out)) | (with_reducible refine Kd.C_alloc ?_ _) | (with_reducible refine Kd.C_drewN ?_ _) | (with_reducible refine Kd.C_drew ?_))); (case side4 => exact HC460_0.out); rintro e w' ⟨rfl, ⟨nd, rfl⟩⟩; refine ⟨_, rfl, ?_⟩))
      go_ret
      exact ⟨_, by first | rfl | (simp [errW_none, errW_some] <;> rfl) | (simp [*, errW_none, errW_some] <;> rfl), by (with_reducible repeat (first | apply Kd.V_alloc | apply Kd.V_drewN | apply Kd.V_drew)); exact Kd.V_mono HO_0.out (fun _ hk => hk.1), bw_⟩
     ·rw [if_neg c6] at H
      have c6b0 : (t461 == 0) = false := beq_eq_false_iff_ne.mpr c6
      have c6b1 : (t461 != 0) = true := bne_iff_ne.mpr c6
      by_cases c7 : t461 < 0
      ·rw [if_pos c7] at H
       have c7b0 : decide (t461 < 0) = true := decide_eq_true c7
       clear c7
       by_cases c8 : x6_1 = true
       ·subst c8
        rw [if_pos rfl] at H
        by_cases c9 : x5_1.length < 5864062014805
        ·rw [if_pos c9] at H
         have LMc9 := Aside0.mk c9
         clear c9
         obtain ⟨y463, hy463⟩ : ∃ y_ : List (List Int), y_ = (x5_1 ++ [rd_L1 l0 x7_1]) := ⟨_, rfl⟩
         replace H : (torusref07_Put.l0 k1 l0 l1 y463 true (wrap64 (x7_1 + 1))) = some r := by first | (rw [hy463]; with_reducible exact H) | (have H2_ := (Option.bind_some _ _).symm.trans H; rw [hy463]; with_reducible exact H2_) | (have H2_ := (Option.bind_some _ _).symm.trans H; with_reducible exact H2_) | with_reducible exact H | (rw [hy463]; exact H) | exact H
         have Ny463 := Aside0.mk hy463
         clear hy463
         have H' := Aside0.mk H
         clear H
         have p460 : 0 ≤ (x7_1 : Int) := of_decide_eq_true as_
         have q460 : x7_1 < (l0.length : Int) := of_decide_eq_true as_
         obtain ⟨ad460, A460_0, c460_0, e460, hx460_0, hl460_0, hi460_0⟩ := at_L1 (Kd.V_reads' HO_0.out).2.2 x7_1 p460 q460
         cases e460
         obtain ⟨ce460, hce460, hMe460, hcc460⟩ := Kd.V_get HO_0.out [] x7_1 p460 (by first | exact q460 | exact of_decide_eq_true as_ | (have e_ := (Kd.V_reads' HO_0.out).1; omega))
         obtain ⟨ua460_0, uc460_0, rfl, ul460_0, ge460_0⟩ := Kd.FK_slice_open hMe460
         have hv460_0 := hcc460 0 _ rfl
         rw [Nat.add_zero, show ((Kd.slice 3 (Kd.int .i64))).sz = 1 from rfl, Nat.mul_one] at hv460_0
         replace hv460_0 := Option.some.inj (hv460_0.symm.trans hx460_0)
         injection hv460_0 with hva_ hvn_ hvc_
         rw [hva_] at ge460_0
         rw [hvc_] at ul460_0
         have HL460_0 := Aside0.mk (show Kd.V (Kd.int .i64) 3 _ w.heap.size _ _ (rd_L1 l0 x7_1) from Kd.V_mk ul460_0 ge460_0)
         clear hva_ hvn_ hvc_ ge460_0 ul460_0
         clear hcc460 hce460
         have HR460_0 := Aside0.mk hi460_0
         have HC460_0 := Aside0.mk hl460_0
         clear hi460_0 hl460_0
         replace p460 := eq_true p460
         replace q460 := eq_true q460
         go_wp2_with (first | ((with_reducible refine gate_callee (f := 17) rfl ?_); refine goesL_ (some 20) rfl rfl Tryd.func17 (by kernel_rfl) rfl #[.slice A1 l1.length c1, .slice A460_0 (rd_L1 l0 x7_1).length c460_0] rfl ag_ ?_; (with_reducible refine (torusref07_Cmp.calls k1 _ _ l1 _ _ (rd_L1 l0 x7_1) t461 _ ?side1 ?side2 ?side3 ?side4 A5.out).mono ?_); (case side1 => repeat (first | exact (Kd.V_reads' HO_1.out).2.2 | (with_reducible refine Kd.C_alloc ?_ _) | (with_reducible refine Kd.C_drewN ?_ _) | (with_reducible refine Kd.C_drew ?_))); (case side2 => exact (Kd.V_reads' HO_1.out).2.1); (case side3 => repeat (first | exact (by repeat (first | (with_reducible exact HR460_0.out) | (with_reducible refine Kd.C_alloc ?_ _) | (with_reducible refine Kd.C_drewN ?_ _) | (with_reducible refine Kd.C_drew ?_) | exact HR460_0.out)) | (with_reducible refine Kd.C_alloc ?_ _) | (with_reducible refine Kd.C_drewN ?_ _) | (with_reducible refine Kd.C_drew ?_))); (case side4 => exact HC460_0.out); rintro e w' ⟨rfl, ⟨nd, rfl⟩⟩; refine ⟨_, rfl, ?_⟩; have p462 : 0 ≤ (x7_1 : Int) := of_decide_eq_true as_; have q462 : x7_1 < (l0.length : Int) := of_decide_eq_true as_; obtain ⟨ad462, A462_0, c462_0, e462, hx462_0, hl462_0, hi462_0⟩ := at_L1 (Kd.V_reads' HO_0.out).2.2 x7_1 p462 q462; obtain rfl : ad460 = ad462 := (by injection e462); obtain ⟨ce462, hce462, hMe462, hcc462⟩ := Kd.V_get HO_0.out [] x7_1 p462 (by first | exact q462 | exact of_decide_eq_true as_ | (have e_ := (Kd.V_reads' HO_0.out).1; omega)); obtain ⟨ua462_0, uc462_0, rfl, ul462_0, ge462_0⟩ := Kd.FK_slice_open hMe462; have hv462_0 := hcc462 0 _ rfl; rw [Nat.add_zero, show ((Kd.slice 3 (Kd.int .i64))).sz = 1 from rfl, Nat.mul_one] at hv462_0; replace hv462_0 := Option.some.inj (hv462_0.symm.trans hx462_0); injection hv462_0 with hva_ hvn_ hvc_; rw [hva_] at ge462_0; rw [hvc_] at ul462_0; have HL462_0 := Aside0.mk (show Kd.V (Kd.int .i64) 3 _ w.heap.size _ _ (rd_L1 l0 x7_1) from Kd.V_mk ul462_0 ge462_0); clear hva_ hvn_ hvc_ ge462_0 ul462_0; clear hcc462 hce462; have HR462_0 := Aside0.mk hi462_0; have HC462_0 := Aside0.mk hl462_0; clear hi462_0 hl462_0; replace p462 := eq_true p462; replace q462 := eq_true q462; have ea_ := Option.some.inj (hx460_0.symm.trans hx462_0); injection ea_ with ea_ en_ ec_; subst ea_; subst ec_; clear en_) | ((with_reducible refine gate_builtin (b := .append) (xs := #[.tmp 34, .tmp 39]) rfl ?_); at_builtin; refine Kd.N_append (Kd.slice 3 (Kd.int .i64)) (w0 := w) w.heap.size rfl (.tmp 34) (.tmp 39) 51 22 (.slice none 0 0) 24 rfl Tryd.underlying51 info22 rfl (by decide) (by omega) u5 x5_1 (rd_L1 l0 x7_1) [.slice A460_0 (rd_L1 l0 x7_1).length c460_0] (fun k_ => ((P0_ k_ ∨ P1_ k_) ∨ w.heap.size ≤ k_)) (fun k_ => ((fun k_ => ((P0_ k_ ∨ P1_ k_) ∨ w.heap.size ≤ k_))) k_ ∧ some k_ ≠ (u5 : Value).ownBlock) rfl rfl ?aP (fun _ hk => hk) ?aF ?aO ?aB ?aS ?aL ?_; (case aP => exact (Kd.FK_slice_mk (Kd.V_reads' (Kd.V_mono (ok' := (fun k_ => ((fun k_ => ((P0_ k_ ∨ P1_ k_) ∨ w.heap.size ≤ k_))) k_ ∧ some k_ ≠ (u5 : Value).ownBlock)) (HL462_0.out) (fun k_ hk => ⟨hk.1, hk.2⟩))).2.1 (Kd.V_F (Kd.V_mono (ok' := (fun k_ => ((fun k_ => ((P0_ k_ ∨ P1_ k_) ∨ w.heap.size ≤ k_))) k_ ∧ some k_ ≠ (u5 : Value).ownBlock)) (rVa_ HL462_0.out) (fun _ hk => hk))))); (case aB => exact bw_); (case aF => exact (fun k_ hk => (.inr (Nat.le_trans (below_size bw_) hk)))); (case aO => exact (rNa_ HO_5.out)); (case aS => exact (below_size bw_)); (case aL => have := LMc9.out; omega); intro v464 w10 ho hb hg hat; rw [← Ny463.out] at ho; have n0_ := Aside0.mk (Kd.V_afterv (ok := (fun k_ => ((P0_ k_ ∨ P1_ k_) ∨ w.heap.size ≤ k_))) (rVa_ HO_0.out) hg hat); have n1_ := Aside0.mk (Kd.V_afterv (ok := (fun k_ => ((P0_ k_ ∨ P1_ k_) ∨ w.heap.size ≤ k_))) (rVa_ HO_1.out) hg hat); have n2_ := Aside0.mk (Kd.V_afterv (ok := (fun k_ => ((P0_ k_ ∨ P1_ k_) ∨ w.heap.size ≤ k_))) (rVa_ HL460_0.out) hg hat); have n3_ := Aside0.mk (Kd.V_afterv (ok := (fun k_ => ((P0_ k_ ∨ P1_ k_) ∨ w.heap.size ≤ k_))) (rVa_ HL462_0.out) hg hat); have n4_ := Aside0.mk (hb); have n5_ := Aside0.mk (ho); clear HO_0; clear HO_1; clear HL460_0; clear HL462_0; clear HB; clear HO_5; have HO_0 := n0_; have HO_1 := n1_; have HL460_0 := n2_; have HL462_0 := n3_; have HB := n4_; have HO465 := n5_; clear n0_ n1_ n2_ n3_ n4_ n5_; clear ho hb hg hat))
         go_roundg k1
         case measure => have := HK1.out; omega
         case rel => exact ⟨(y463), (true), (wrap64 (x7_1 + 1)), sd_, sd_, H', ⟨by have := HK1.out; omega⟩, ⟨rVa_ HO_0.out⟩, ⟨rVa_ HO_1.out⟩, ⟨rNa_ HO465.out⟩, ⟨bw_⟩⟩
        ·rw [if_neg c9] at H
         exact absurd H (by simp)
       ·replace c8 := Bool.eq_false_iff.mpr c8
        subst c8
        rw [if_neg (show ¬ (false = true) by decide)] at H
        by_cases c11 : x5_1.length < 5864062014805
        ·rw [if_pos c11] at H
         have LMc11 := Aside0.mk c11
         clear c11
         obtain ⟨y466, hy466⟩ : ∃ y_ : List (List Int), y_ = (x5_1 ++ [l1]) := ⟨_, rfl⟩
         replace H : (if y466.length < 5864062014805 then (torusref07_Put.l0 k1 l0 l1 (y466 ++ [rd_L1 l0 x7_1]) true (wrap64 (x7_1 + 1))) else (none)) = some r := by first | (rw [hy466]; with_reducible exact H) | (have H2_ := (Option.bind_some _ _).symm.trans H; rw [hy466]; with_reducible exact H2_) | (have H2_ := (Option.bind_some _ _).symm.trans H; with_reducible exact H2_) | with_reducible exact H | (rw [hy466]; exact H) | exact H
         have Ny466 := Aside0.mk hy466
         clear hy466
         by_cases c12 : y466.length < 5864062014805
         ·rw [if_pos c12] at H
          have LMc12 := Aside0.mk c12
          clear c12
          obtain ⟨y470, hy470⟩ : ∃ y_ : List (List Int), y_ = (y466 ++ [rd_L1 l0 x7_1]) := ⟨_, rfl⟩
          replace H : (torusref07_Put.l0 k1 l0 l1 y470 true (wrap64 (x7_1 + 1))) = some r := by first | (rw [hy470]; with_reducible exact H) | (have H2_ := (Option.bind_some _ _).symm.trans H; rw [hy470]; with_reducible exact H2_) | (have H2_ := (Option.bind_some _ _).symm.trans H; with_reducible exact H2_) | with_reducible exact H | (rw [hy470]; exact H) | exact H
          have Ny470 := Aside0.mk hy470
          clear hy470
          have H' := Aside0.mk H
          clear H
          have p460 : 0 ≤ (x7_1 : Int) := of_decide_eq_true as_
          have q460 : x7_1 < (l0.length : Int) := of_decide_eq_true as_
          obtain ⟨ad460, A460_0, c460_0, e460, hx460_0, hl460_0, hi460_0⟩ := at_L1 (Kd.V_reads' HO_0.out).2.2 x7_1 p460 q460
          cases e460
          obtain ⟨ce460, hce460, hMe460, hcc460⟩ := Kd.V_get HO_0.out [] x7_1 p460 (by first | exact q460 | exact of_decide_eq_true as_ | (have e_ := (Kd.V_reads' HO_0.out).1; omega))
          obtain ⟨ua460_0, uc460_0, rfl, ul460_0, ge460_0⟩ := Kd.FK_slice_open hMe460
          have hv460_0 := hcc460 0 _ rfl
          rw [Nat.add_zero, show ((Kd.slice 3 (Kd.int .i64))).sz = 1 from rfl, Nat.mul_one] at hv460_0
          replace hv460_0 := Option.some.inj (hv460_0.symm.trans hx460_0)
          injection hv460_0 with hva_ hvn_ hvc_
          rw [hva_] at ge460_0
          rw [hvc_] at ul460_0
          have HL460_0 := Aside0.mk (show Kd.V (Kd.int .i64) 3 _ w.heap.size _ _ (rd_L1 l0 x7_1) from Kd.V_mk ul460_0 ge460_0)
          clear hva_ hvn_ hvc_ ge460_0 ul460_0
          clear hcc460 hce460
          have HR460_0 := Aside0.mk hi460_0
          have HC460_0 := Aside0.mk hl460_0
          clear hi460_0 hl460_0
          replace p460 := eq_true p460
          replace q460 := eq_true q460
          go_wp2_with (first | ((with_reducible refine gate_callee (f := 17) rfl ?_); refine goesL_ (some 20) rfl rfl Tryd.func17 (by kernel_rfl) rfl #[.slice A1 l1.length c1, .slice A460_0 (rd_L1 l0 x7_1).length c460_0] rfl ag_ ?_; (with_reducible refine (torusref07_Cmp.calls k1 _ _ l1 _ _ (rd_L1 l0 x7_1) t461 _ ?side1 ?side2 ?side3 ?side4 A5.out).mono ?_); (case side1 => repeat (first | exact (Kd.V_reads' HO_1.out).2.2 | (with_reducible refine Kd.C_alloc ?_ _) | (with_reducible refine Kd.C_drewN ?_ _) | (with_reducible refine Kd.C_drew ?_))); (case side2 => exact (Kd.V_reads' HO_1.out).2.1); (case side3 => repeat (first | exact (by repeat (first | (with_reducible exact HR460_0.out) | (with_reducible refine Kd.C_alloc ?_ _) | (with_reducible refine Kd.C_drewN ?_ _) | (with_reducible refine Kd.C_drew ?_) | exact HR460_0.out)) | (with_reducible refine Kd.C_alloc ?_ _) | (with_reducible refine Kd.C_drewN ?_ _) | (with_reducible refine Kd.C_drew ?_))); (case side4 => exact HC460_0.out); rintro e w' ⟨rfl, ⟨nd, rfl⟩⟩; refine ⟨_, rfl, ?_⟩) | ((with_reducible refine gate_builtin (b := .append) (xs := #[.tmp 30, .tmp 32]) rfl ?_); at_builtin; refine Kd.N_append (Kd.slice 3 (Kd.int .i64)) (w0 := w) w.heap.size rfl (.tmp 30) (.tmp 32) 51 22 (.slice none 0 0) 24 rfl Tryd.underlying51 info22 rfl (by decide) (by omega) u5 x5_1 l1 [.slice A1 l1.length c1] (fun k_ => ((P0_ k_ ∨ P1_ k_) ∨ w.heap.size ≤ k_)) (fun k_ => ((fun k_ => ((P0_ k_ ∨ P1_ k_) ∨ w.heap.size ≤ k_))) k_ ∧ some k_ ≠ (u5 : Value).ownBlock) rfl rfl ?aP (fun _ hk => hk) ?aF ?aO ?aB ?aS ?aL ?_; (case aP => exact (Kd.FK_slice_mk (Kd.V_reads' (Kd.V_mono (ok' := (fun k_ => ((fun k_ => ((P0_ k_ ∨ P1_ k_) ∨ w.heap.size ≤ k_))) k_ ∧ some k_ ≠ (u5 : Value).ownBlock)) (HO_1.out) (fun k_ hk => ⟨hk.1, hk.2⟩))).2.1 (Kd.V_F (Kd.V_mono (ok' := (fun k_ => ((fun k_ => ((P0_ k_ ∨ P1_ k_) ∨ w.heap.size ≤ k_))) k_ ∧ some k_ ≠ (u5 : Value).ownBlock)) (rVa_ HO_1.out) (fun _ hk => hk))))); (case aB => exact bw_); (case aF => exact (fun k_ hk => (.inr (Nat.le_trans (below_size bw_) hk)))); (case aO => exact (rNa_ HO_5.out)); (case aS => exact (below_size bw_)); (case aL => have := LMc11.out; omega); intro v467 w13 ho hb hg hat; rw [← Ny466.out] at ho; have n0_ := Aside0.mk (Kd.V_afterv (ok := (fun k_ => ((P0_ k_ ∨ P1_ k_) ∨ w.heap.size ≤ k_))) (rVa_ HO_0.out) hg hat); have n1_ := Aside0.mk (Kd.V_afterv (ok := (fun k_ => ((P0_ k_ ∨ P1_ k_) ∨ w.heap.size ≤ k_))) (rVa_ HO_1.out) hg hat); have n2_ := Aside0.mk (Kd.V_afterv (ok := (fun k_ => ((P0_ k_ ∨ P1_ k_) ∨ w.heap.size ≤ k_))) (rVa_ HL460_0.out) hg hat); have n3_ := Aside0.mk (hb); have n4_ := Aside0.mk (ho); clear HO_0; clear HO_1; clear HL460_0; clear HB; clear HO_5; have HO_0 := n0_; have HO_1 := n1_; have HL460_0 := n2_; have HB := n3_; have HO468 := n4_; clear n0_ n1_ n2_ n3_ n4_; clear ho hb hg hat; have p469 : 0 ≤ (x7_1 : Int) := of_decide_eq_true as_; have q469 : x7_1 < (l0.length : Int) := of_decide_eq_true as_; obtain ⟨ad469, A469_0, c469_0, e469, hx469_0, hl469_0, hi469_0⟩ := at_L1 (Kd.V_reads' HO_0.out).2.2 x7_1 p469 q469; obtain rfl : ad460 = ad469 := (by injection e469); obtain ⟨ce469, hce469, hMe469, hcc469⟩ := Kd.V_get HO_0.out [] x7_1 p469 (by first | exact q469 | exact of_decide_eq_true as_ | (have e_ := (Kd.V_reads' HO_0.out).1; omega)); obtain ⟨ua469_0, uc469_0, rfl, ul469_0, ge469_0⟩ := Kd.FK_slice_open hMe469; have hv469_0 := hcc469 0 _ rfl; rw [Nat.add_zero, show ((Kd.slice 3 (Kd.int .i64))).sz = 1 from rfl, Nat.mul_one] at hv469_0; replace hv469_0 := Option.some.inj (hv469_0.symm.trans hx469_0); injection hv469_0 with hva_ hvn_ hvc_; rw [hva_] at ge469_0; rw [hvc_] at ul469_0; have HL469_0 := Aside0.mk (show Kd.V (Kd.int .i64) 3 _ w.heap.size _ _ (rd_L1 l0 x7_1) from Kd.V_mk ul469_0 ge469_0); clear hva_ hvn_ hvc_ ge469_0 ul469_0; clear hcc469 hce469; have HR469_0 := Aside0.mk hi469_0; have HC469_0 := Aside0.mk hl469_0; clear hi469_0 hl469_0; replace p469 := eq_true p469; replace q469 := eq_true q469) | ((with_reducible refine gate_builtin (b := .append) (xs := #[.tmp 34, .tmp 39]) rfl ?_); at_builtin; refine Kd.N_append (Kd.slice 3 (Kd.int .i64)) (w0 := w) w.heap.size rfl (.tmp 34) (.tmp 39) 51 22 (.slice none 0 0) 24 rfl Tryd.underlying51 info22 rfl (by decide) (by omega) v467 y466 (rd_L1 l0 x7_1) [.slice A469_0 (rd_L1 l0 x7_1).length c469_0] (fun k_ => ((P0_ k_ ∨ P1_ k_) ∨ w.heap.size ≤ k_)) (fun k_ => ((fun k_ => ((P0_ k_ ∨ P1_ k_) ∨ w.heap.size ≤ k_))) k_ ∧ some k_ ≠ (v467 : Value).ownBlock) rfl rfl ?aP (fun _ hk => hk) ?aF ?aO ?aB ?aS ?aL ?_; (case aP => exact (Kd.FK_slice_mk (Kd.V_reads' (Kd.V_mono (ok' := (fun k_ => ((fun k_ => ((P0_ k_ ∨ P1_ k_) ∨ w.heap.size ≤ k_))) k_ ∧ some k_ ≠ (v467 : Value).ownBlock)) (HL469_0.out) (fun k_ hk => ⟨hk.1, hk.2⟩))).2.1 (Kd.V_F (Kd.V_mono (ok' := (fun k_ => ((fun k_ => ((P0_ k_ ∨ P1_ k_) ∨ w.heap.size ≤ k_))) k_ ∧ some k_ ≠ (v467 : Value).ownBlock)) (rVa_ HL469_0.out) (fun _ hk => hk))))); (case aB => exact bw_); (case aF => exact (fun k_ hk => (.inr (Nat.le_trans (below_size bw_) hk)))); (case aO => exact (rNa_ HO468.out)); (case aS => exact (below_size bw_)); (case aL => have := LMc12.out; omega); intro v471 w14 ho hb hg hat; rw [← Ny470.out] at ho; have n0_ := Aside0.mk (Kd.V_afterv (ok := (fun k_ => ((P0_ k_ ∨ P1_ k_) ∨ w.heap.size ≤ k_))) (rVa_ HO_0.out) hg hat); have n1_ := Aside0.mk (Kd.V_afterv (ok := (fun k_ => ((P0_ k_ ∨ P1_ k_) ∨ w.heap.size ≤ k_))) (rVa_ HO_1.out) hg hat); have n2_ := Aside0.mk (Kd.V_afterv (ok := (fun k_ => ((P0_ k_ ∨ P1_ k_) ∨ w.heap.size ≤ k_))) (rVa_ HL460_0.out) hg hat); have n3_ := Aside0.mk (Kd.V_afterv (ok := (fun k_ => ((P0_ k_ ∨ P1_ k_) ∨ w.heap.size ≤ k_))) (rVa_ HL469_0.out) hg hat); have n4_ := Aside0.mk (hb); have n5_ := Aside0.mk (ho); clear HO_0; clear HO_1; clear HL460_0; clear HL469_0; clear HB; clear HO468; have HO_0 := n0_; have HO_1 := n1_; have HL460_0 := n2_; have HL469_0 := n3_; have HB := n4_; have HO472 := n5_; clear n0_ n1_ n2_ n3_ n4_ n5_; clear ho hb hg hat))
          go_roundg k1
          case measure => have := HK1.out; omega
          case rel => exact ⟨(y470), (true), (wrap64 (x7_1 + 1)), sd_, sd_, H', ⟨by have := HK1.out; omega⟩, ⟨rVa_ HO_0.out⟩, ⟨rVa_ HO_1.out⟩, ⟨rNa_ HO472.out⟩, ⟨bw_⟩⟩
         ·rw [if_neg c12] at H
          exact absurd H (by simp)
        ·rw [if_neg c11] at H
         exact absurd H (by simp)
      ·rw [if_neg c7] at H
       have c7b0 : decide (t461 < 0) = false := decide_eq_false c7
       clear c7
       by_cases c15 : x5_1.length < 5864062014805
       ·rw [if_pos c15] at H
        have LMc15 := Aside0.mk c15
        clear c15
        obtain ⟨y474, hy474⟩ : ∃ y_ : List (List Int), y_ = (x5_1 ++ [rd_L1 l0 x7_1]) := ⟨_, rfl⟩
        replace H : (torusref07_Put.l0 k1 l0 l1 y474 x6_1 (wrap64 (x7_1 + 1))) = some r := by first | (rw [hy474]; with_reducible exact H) | (have H2_ := (Option.bind_some _ _).symm.trans H; rw [hy474]; with_reducible exact H2_) | (have H2_ := (Option.bind_some _ _).symm.trans H; with_reducible exact H2_) | with_reducible exact H | (rw [hy474]; exact H) | exact H
        have Ny474 := Aside0.mk hy474
        clear hy474
        have H' := Aside0.mk H
        clear H
        have p460 : 0 ≤ (x7_1 : Int) := of_decide_eq_true as_
        have q460 : x7_1 < (l0.length : Int) := of_decide_eq_true as_
        obtain ⟨ad460, A460_0, c460_0, e460, hx460_0, hl460_0, hi460_0⟩ := at_L1 (Kd.V_reads' HO_0.out).2.2 x7_1 p460 q460
        cases e460
        obtain ⟨ce460, hce460, hMe460, hcc460⟩ := Kd.V_get HO_0.out [] x7_1 p460 (by first | exact q460 | exact of_decide_eq_true as_ | (have e_ := (Kd.V_reads' HO_0.out).1; omega))
        obtain ⟨ua460_0, uc460_0, rfl, ul460_0, ge460_0⟩ := Kd.FK_slice_open hMe460
        have hv460_0 := hcc460 0 _ rfl
        rw [Nat.add_zero, show ((Kd.slice 3 (Kd.int .i64))).sz = 1 from rfl, Nat.mul_one] at hv460_0
        replace hv460_0 := Option.some.inj (hv460_0.symm.trans hx460_0)
        injection hv460_0 with hva_ hvn_ hvc_
        rw [hva_] at ge460_0
        rw [hvc_] at ul460_0
        have HL460_0 := Aside0.mk (show Kd.V (Kd.int .i64) 3 _ w.heap.size _ _ (rd_L1 l0 x7_1) from Kd.V_mk ul460_0 ge460_0)
        clear hva_ hvn_ hvc_ ge460_0 ul460_0
        clear hcc460 hce460
        have HR460_0 := Aside0.mk hi460_0
        have HC460_0 := Aside0.mk hl460_0
        clear hi460_0 hl460_0
        replace p460 := eq_true p460
        replace q460 := eq_true q460
        go_wp2_with (first | ((with_reducible refine gate_callee (f := 17) rfl ?_); refine goesL_ (some 20) rfl rfl Tryd.func17 (by kernel_rfl) rfl #[.slice A1 l1.length c1, .slice A460_0 (rd_L1 l0 x7_1).length c460_0] rfl ag_ ?_; (with_reducible refine (torusref07_Cmp.calls k1 _ _ l1 _ _ (rd_L1 l0 x7_1) t461 _ ?side1 ?side2 ?side3 ?side4 A5.out).mono ?_); (case side1 => repeat (first | exact (Kd.V_reads' HO_1.out).2.2 | (with_reducible refine Kd.C_alloc ?_ _) | (with_reducible refine Kd.C_drewN ?_ _) | (with_reducible refine Kd.C_drew ?_))); (case side2 => exact (Kd.V_reads' HO_1.out).2.1); (case side3 => repeat (first | exact (by repeat (first | (with_reducible exact HR460_0.out) | (with_reducible refine Kd.C_alloc ?_ _) | (with_reducible refine Kd.C_drewN ?_ _) | (with_reducible refine Kd.C_drew ?_) | exact HR460_0.out)) | (with_reducible refine Kd.C_alloc ?_ _) | (with_reducible refine Kd.C_drewN ?_ _) | (with_reducible refine Kd.C_drew ?_))); (case side4 => exact HC460_0.out); rintro e w' ⟨rfl, ⟨nd, rfl⟩⟩; refine ⟨_, rfl, ?_⟩; have p473 : 0 ≤ (x7_1 : Int) := of_decide_eq_true as_; have q473 : x7_1 < (l0.length : Int) := of_decide_eq_true as_; obtain ⟨ad473, A473_0, c473_0, e473, hx473_0, hl473_0, hi473_0⟩ := at_L1 (Kd.V_reads' HO_0.out).2.2 x7_1 p473 q473; obtain rfl : ad460 = ad473 := (by injection e473); obtain ⟨ce473, hce473, hMe473, hcc473⟩ := Kd.V_get HO_0.out [] x7_1 p473 (by first | exact q473 | exact of_decide_eq_true as_ | (have e_ := (Kd.V_reads' HO_0.out).1; omega)); obtain ⟨ua473_0, uc473_0, rfl, ul473_0, ge473_0⟩ := Kd.FK_slice_open hMe473; have hv473_0 := hcc473 0 _ rfl; rw [Nat.add_zero, show ((Kd.slice 3 (Kd.int .i64))).sz = 1 from rfl, Nat.mul_one] at hv473_0; replace hv473_0 := Option.some.inj (hv473_0.symm.trans hx473_0); injection hv473_0 with hva_ hvn_ hvc_; rw [hva_] at ge473_0; rw [hvc_] at ul473_0; have HL473_0 := Aside0.mk (show Kd.V (Kd.int .i64) 3 _ w.heap.size _ _ (rd_L1 l0 x7_1) from Kd.V_mk ul473_0 ge473_0); clear hva_ hvn_ hvc_ ge473_0 ul473_0; clear hcc473 hce473; have HR473_0 := Aside0.mk hi473_0; have HC473_0 := Aside0.mk hl473_0; clear hi473_0 hl473_0; replace p473 := eq_true p473; replace q473 := eq_true q473; have ea_ := Option.some.inj (hx460_0.symm.trans hx473_0); injection ea_ with ea_ en_ ec_; subst ea_; subst ec_; clear en_) | ((with_reducible refine gate_builtin (b := .append) (xs := #[.tmp 34, .tmp 39]) rfl ?_); at_builtin; refine Kd.N_append (Kd.slice 3 (Kd.int .i64)) (w0 := w) w.heap.size rfl (.tmp 34) (.tmp 39) 51 22 (.slice none 0 0) 24 rfl Tryd.underlying51 info22 rfl (by decide) (by omega) u5 x5_1 (rd_L1 l0 x7_1) [.slice A460_0 (rd_L1 l0 x7_1).length c460_0] (fun k_ => ((P0_ k_ ∨ P1_ k_) ∨ w.heap.size ≤ k_)) (fun k_ => ((fun k_ => ((P0_ k_ ∨ P1_ k_) ∨ w.heap.size ≤ k_))) k_ ∧ some k_ ≠ (u5 : Value).ownBlock) rfl rfl ?aP (fun _ hk => hk) ?aF ?aO ?aB ?aS ?aL ?_; (case aP => exact (Kd.FK_slice_mk (Kd.V_reads' (Kd.V_mono (ok' := (fun k_ => ((fun k_ => ((P0_ k_ ∨ P1_ k_) ∨ w.heap.size ≤ k_))) k_ ∧ some k_ ≠ (u5 : Value).ownBlock)) (HL473_0.out) (fun k_ hk => ⟨hk.1, hk.2⟩))).2.1 (Kd.V_F (Kd.V_mono (ok' := (fun k_ => ((fun k_ => ((P0_ k_ ∨ P1_ k_) ∨ w.heap.size ≤ k_))) k_ ∧ some k_ ≠ (u5 : Value).ownBlock)) (rVa_ HL473_0.out) (fun _ hk => hk))))); (case aB => exact bw_); (case aF => exact (fun k_ hk => (.inr (Nat.le_trans (below_size bw_) hk)))); (case aO => exact (rNa_ HO_5.out)); (case aS => exact (below_size bw_)); (case aL => have := LMc15.out; omega); intro v475 w16 ho hb hg hat; rw [← Ny474.out] at ho; have n0_ := Aside0.mk (Kd.V_afterv (ok := (fun k_ => ((P0_ k_ ∨ P1_ k_) ∨ w.heap.size ≤ k_))) (rVa_ HO_0.out) hg hat); have n1_ := Aside0.mk (Kd.V_afterv (ok := (fun k_ => ((P0_ k_ ∨ P1_ k_) ∨ w.heap.size ≤ k_))) (rVa_ HO_1.out) hg hat); have n2_ := Aside0.mk (Kd.V_afterv (ok := (fun k_ => ((P0_ k_ ∨ P1_ k_) ∨ w.heap.size ≤ k_))) (rVa_ HL460_0.out) hg hat); have n3_ := Aside0.mk (Kd.V_afterv (ok := (fun k_ => ((P0_ k_ ∨ P1_ k_) ∨ w.heap.size ≤ k_))) (rVa_ HL473_0.out) hg hat); have n4_ := Aside0.mk (hb); have n5_ := Aside0.mk (ho); clear HO_0; clear HO_1; clear HL460_0; clear HL473_0; clear HB; clear HO_5; have HO_0 := n0_; have HO_1 := n1_; have HL460_0 := n2_; have HL473_0 := n3_; have HB := n4_; have HO476 := n5_; clear n0_ n1_ n2_ n3_ n4_ n5_; clear ho hb hg hat))
        go_roundg k1
        case measure => have := HK1.out; omega
        case rel => exact ⟨(y474), (x6_1), (wrap64 (x7_1 + 1)), sd_, sd_, H', ⟨by have := HK1.out; omega⟩, ⟨rVa_ HO_0.out⟩, ⟨rVa_ HO_1.out⟩, ⟨rNa_ HO476.out⟩, ⟨bw_⟩⟩
       ·rw [if_neg c15] at H
        exact absurd H (by simp)
    ·rw [if_neg c4] at H
     exact absurd H (by simp)
   ·rw [if_neg c3] at H
    have c3b0 : decide (x7_1 < (l0.length : Int)) = false := decide_eq_false c3
    clear c3
    by_cases c17 : x6_1 = true
    ·subst c17
     rw [if_pos rfl] at H
     obtain rfl := Option.some.inj H
     go_wp2
     go_ret
     exact ⟨_, by first | rfl | (simp [errW_none, errW_some] <;> rfl) | (simp [*, errW_none, errW_some] <;> rfl), Kd.N_V (rNa_ HO_5.out), bw_⟩
    ·replace c17 := Bool.eq_false_iff.mpr c17
     subst c17
     rw [if_neg (show ¬ (false = true) by decide)] at H
     by_cases c18 : x5_1.length < 5864062014805
     ·rw [if_pos c18] at H
      have LMc18 := Aside0.mk c18
      clear c18
      obtain ⟨y457, hy457⟩ : ∃ y_ : List (List Int), y_ = (x5_1 ++ [l1]) := ⟨_, rfl⟩
      replace H : (some y457) = some r := by first | (rw [hy457]; with_reducible exact H) | (have H2_ := (Option.bind_some _ _).symm.trans H; rw [hy457]; with_reducible exact H2_) | (have H2_ := (Option.bind_some _ _).symm.trans H; with_reducible exact H2_) | with_reducible exact H | (rw [hy457]; exact H) | exact H
      have Ny457 := Aside0.mk hy457
      clear hy457
      obtain rfl := Option.some.inj H
      go_wp2_with (first | ((with_reducible refine gate_builtin (b := .append) (xs := #[.tmp 43, .tmp 45]) rfl ?_); at_builtin; refine Kd.N_append (Kd.slice 3 (Kd.int .i64)) (w0 := w) w.heap.size rfl (.tmp 43) (.tmp 45) 51 22 (.slice none 0 0) 24 rfl Tryd.underlying51 info22 rfl (by decide) (by omega) u5 x5_1 l1 [.slice A1 l1.length c1] (fun k_ => ((P0_ k_ ∨ P1_ k_) ∨ w.heap.size ≤ k_)) (fun k_ => ((fun k_ => ((P0_ k_ ∨ P1_ k_) ∨ w.heap.size ≤ k_))) k_ ∧ some k_ ≠ (u5 : Value).ownBlock) rfl rfl ?aP (fun _ hk => hk) ?aF ?aO ?aB ?aS ?aL ?_; (case aP => exact (Kd.FK_slice_mk (Kd.V_reads' (Kd.V_mono (ok' := (fun k_ => ((fun k_ => ((P0_ k_ ∨ P1_ k_) ∨ w.heap.size ≤ k_))) k_ ∧ some k_ ≠ (u5 : Value).ownBlock)) (HO_1.out) (fun k_ hk => ⟨hk.1, hk.2⟩))).2.1 (Kd.V_F (Kd.V_mono (ok' := (fun k_ => ((fun k_ => ((P0_ k_ ∨ P1_ k_) ∨ w.heap.size ≤ k_))) k_ ∧ some k_ ≠ (u5 : Value).ownBlock)) (rVa_ HO_1.out) (fun _ hk => hk))))); (case aB => exact bw_); (case aF => exact (fun k_ hk => (.inr (Nat.le_trans (below_size bw_) hk)))); (case aO => exact (rNa_ HO_5.out)); (case aS => exact (below_size bw_)); (case aL => have := LMc18.out; omega); intro v458 w19 ho hb hg hat; rw [← Ny457.out] at ho; have n0_ := Aside0.mk (Kd.V_afterv (ok := (fun k_ => ((P0_ k_ ∨ P1_ k_) ∨ w.heap.size ≤ k_))) (rVa_ HO_0.out) hg hat); have n1_ := Aside0.mk (Kd.V_afterv (ok := (fun k_ => ((P0_ k_ ∨ P1_ k_) ∨ w.heap.size ≤ k_))) (rVa_ HO_1.out) hg hat); have n2_ := Aside0.mk (hb); have n3_ := Aside0.mk (ho); clear HO_0; clear HO_1; clear HB; clear HO_5; have HO_0 := n0_; have HO_1 := n1_; have HB := n2_; have HO459 := n3_; clear n0_ n1_ n2_ n3_; clear ho hb hg hat))
      go_ret
      exact ⟨_, by first | rfl | (simp [errW_none, errW_some] <;> rfl) | (simp [*, errW_none, errW_some] <;> rfl), Kd.N_V (rNa_ HO459.out), bw_⟩
     ·rw [if_neg c18] at H
      exact absurd H (by simp)

end Go.Proofs.YticckanjfdcpaaaDoor.PSimplex
namespace Go.Proofs.YticckanjfdcpaaaDoor.PSimplex
open Go.RowKit Go.Proofs.YticckanjfdcpaaaDoorW.PrintWords Go.Proofs.YticckanjfdcpaaaDoorW.PrintLast Go.Proofs.YticckanjfdcpaaaDoorW.PrintMore
attribute [local go_sem] max2_int min2_int max_two min_two max_three min_three max_four min_four   -- for this text's walks alone
set_option linter.unusedVariables false
set_option linter.unusedSimpArgs false

/-! ### torusref07_Faces: function 30 -/
mutual
def torusref07_Faces.l0 : Nat → List Int → List (List Int) → Int → Option ((List (List Int)))
 |0, _, _, _ => none
 |k + 1, x0, x3, x4 => if x4 < (shl .i64 1 (x0.length : Int)) then (torusref07_Faces.l1 k x0 x3 x4 ([] : List Int) 0) else (some x3)
def torusref07_Faces.l1 : Nat → List Int → List (List Int) → Int → List Int → Int → Option ((List (List Int)))
 |0, _, _, _, _, _ => none
 |k + 1, x0, x3, x4, x5, x6 => if x6 < (x0.length : Int) then (if 0 ≤ x6 then (if (Int.tmod (shr .i64 x4 x6) 2) = 1 then (if x5.length < 17592186044416 then (torusref07_Faces.l1 k x0 x3 x4 (x5 ++ [rd x0 x6]) (wrap64 (x6 + 1))) else (none)) else (torusref07_Faces.l1 k x0 x3 x4 x5 (wrap64 (x6 + 1)))) else (none)) else ((torusref07_Put.f k x3 x5).bind fun t481 => (torusref07_Faces.l0 k x0 t481 (wrap64 (x4 + 1))))
end
def torusref07_Faces.f (k : Nat) (l0 : List Int) : Option ((List (List Int))) := torusref07_Faces.l0 k l0 ([] : List (List Int)) 1
theorem torusref07_Faces.mono_l : ∀ k, (∀ y0 y1 y2, LeO (torusref07_Faces.l0 k y0 y1 y2) (torusref07_Faces.l0 (k + 1) y0 y1 y2)) ∧ (∀ y0 y1 y2 y3 y4, LeO (torusref07_Faces.l1 k y0 y1 y2 y3 y4) (torusref07_Faces.l1 (k + 1) y0 y1 y2 y3 y4))
 |0 => ⟨fun _ _ _ r h => by simp [torusref07_Faces.l0] at h, fun _ _ _ _ _ r h => by simp [torusref07_Faces.l1] at h⟩
 |k + 1 => by
  obtain ⟨ih0, ih1⟩ := torusref07_Faces.mono_l k
  refine ⟨?_, ?_⟩
  ·intro y0 y1 y2
   unfold torusref07_Faces.l0
   repeat' first
   |(with_reducible exact ih0 _ _ _)
   |(with_reducible exact ih1 _ _ _ _ _)
   |(with_reducible exact torusref07_Put.mono _ _ _)
   |(with_reducible exact LeO.refl _)
   |(with_reducible exact LeO.none _)
   |(with_reducible refine LeO.ite ?_ ?_)
   |(with_reducible refine LeO.bind ?_ (fun _ => ?_))
  ·intro y0 y1 y2 y3 y4
   unfold torusref07_Faces.l1
   repeat' first
   |(with_reducible exact ih0 _ _ _)
   |(with_reducible exact ih1 _ _ _ _ _)
   |(with_reducible exact torusref07_Put.mono _ _ _)
   |(with_reducible exact LeO.refl _)
   |(with_reducible exact LeO.none _)
   |(with_reducible refine LeO.ite ?_ ?_)
   |(with_reducible refine LeO.bind ?_ (fun _ => ?_))
theorem torusref07_Faces.mono : ∀ a0 k, LeO (torusref07_Faces.f k a0) (torusref07_Faces.f (k + 1) a0) := by
 intro a0 k
 obtain ⟨ih0, ih1⟩ := torusref07_Faces.mono_l k
 unfold torusref07_Faces.f
 repeat' first
   |(with_reducible exact ih0 _ _ _)
   |(with_reducible exact ih1 _ _ _ _ _)
   |(with_reducible exact torusref07_Put.mono _ _ _)
   |(with_reducible exact LeO.refl _)
   |(with_reducible exact LeO.none _)
   |(with_reducible refine LeO.ite ?_ ?_)
   |(with_reducible refine LeO.bind ?_ (fun _ => ?_))
set_option maxHeartbeats 8000000 in
set_option maxRecDepth 100000 in
theorem torusref07_Faces.calls (k : Nat) (A0 : Option Addr) (c0 : Nat) (l0 : List Int) (r : List (List Int)) (w : World) (hr0 : Kd.C (Kd.int .i64) w A0 l0.length l0) (hc0 : l0.length ≤ c0) (h : torusref07_Faces.f k l0 = some r) :
  Calls Tryd.prog 30 #[.slice A0 l0.length c0] w fun e w' => ∃ v0_ : Value, e = .returned (v0_) ∧ Kd.V (Kd.slice 3 (Kd.int .i64)) 22 w' w.heap.size (fun k_ => (w.heap.size ≤ k_)) v0_ r ∧ Below w.heap.size w w' := by
 have HR0 := Aside0.mk hr0
 have HC0 := Aside0.mk hc0
 clear hr0 hc0
 have HB := Aside0.mk (Below.refl w.heap.size w)
 have H : (torusref07_Faces.l0 k l0 ([] : List (List Int)) 1) = some r := h
 clear h
 have H' := Aside0.mk H
 clear H
 go_enter Tryd.func30, Tryd.ntmps30
 go_wp2
 go_loopg [3, 4] k (fun kq v3 v4 w' => ∃ (x3_1 : List (List Int)) (x4_1 : Int), v4 = .int .i64 x4_1 ∧ Aside0 (torusref07_Faces.l0 kq l0 x3_1 x4_1 = some r) ∧ Aside0 (kq ≤ k) ∧ Aside0 (Kd.V (Kd.slice 3 (Kd.int .i64)) 22 w' w.heap.size (fun k_ => (w.heap.size ≤ k_)) v3 x3_1) ∧ Aside0 (Below w.heap.size w w'))
 case atStart => exact ⟨(([] : List (List Int))), (1), sd_, H', ⟨Nat.le_refl _⟩, ⟨Kd.V_nil _ _ _ _ _⟩, ⟨bw_⟩⟩
 case round =>
  clear H'
  obtain ⟨x3_1, x4_1, rfl, HA, HK1, HO_3, HB⟩ := hrel
  cases gk with
  |zero => exact absurd HA.out (by simp [torusref07_Faces.l0])
  |succ k1 =>
   have H := HA.out
   clear HA
   simp only [torusref07_Faces.l0] at H
   obtain ⟨ji2, hji2⟩ : ∃ j_ : Int, (shl .i64 1 (l0.length : Int)) = j_ := ⟨_, rfl⟩
   replace H : (if x4_1 < (ji2) then (torusref07_Faces.l1 k1 l0 x3_1 x4_1 ([] : List Int) 0) else (some x3_1)) = some r := by first | (rw [hji2] at H; exact H) | (simp only [hji2] at H ⊢; exact H)
   have hji2_ : (IntKind.i64.wrap (1 * 2 ^ min (l0.length : Int).toNat 64)) = ji2 := hji2
   have hji2z : (l0.length : Int) ≤ 64 → (IntKind.i64.wrap (1 * 2 ^ (l0.length : Int).toNat)) = ji2 := shl_small hji2
   have hji2p : (IntKind.i64.wrap (1 * 2 ^ min l0.length 64)) = ji2 := hji2_
   have hji2q : (l0.length : Int) ≤ 64 → (IntKind.i64.wrap (1 * 2 ^ l0.length)) = ji2 := hji2z
   have hji2r : (IntKind.i64.wrap (2 ^ min l0.length 64)) = ji2 := by have h_ := hji2p; rw [Int.one_mul] at h_; exact h_
   have hji2s : (l0.length : Int) ≤ 64 → (IntKind.i64.wrap (2 ^ l0.length)) = ji2 := fun hle_ => by have h_ := hji2q hle_; rw [Int.one_mul] at h_; exact h_
   have hji2u : (IntKind.i64.wrap (2 ^ min (l0.length : Int).toNat 64)) = ji2 := by have h_ := hji2_; rw [Int.one_mul] at h_; exact h_
   have hji2v : (l0.length : Int) ≤ 64 → (IntKind.i64.wrap (2 ^ (l0.length : Int).toNat)) = ji2 := fun hle_ => by have h_ := hji2z hle_; rw [Int.one_mul] at h_; exact h_
   have hji2y : (wrap64 (1 * 2 ^ min (l0.length : Int).toNat 64)) = ji2 := (i64_w _).symm.trans hji2_
   have hji2x : (l0.length : Int) ≤ 64 → (wrap64 (1 * 2 ^ (l0.length : Int).toNat)) = ji2 := fun h_ => (i64_w _).symm.trans (hji2z h_)
   by_cases c3 : x4_1 < (ji2)
   ·rw [if_pos c3] at H
    have c3b0 : decide (x4_1 < (ji2)) = true := decide_eq_true c3
    clear c3
    have H' := Aside0.mk H
    clear H
    go_wp2
    go_loopg [5, 6] k1 (fun kq v5 v6 w' => ∃ (x5_2 : List Int) (x6_2 : Int), v6 = .int .i64 x6_2 ∧ Aside0 (torusref07_Faces.l1 kq l0 x3_1 x4_1 x5_2 x6_2 = some r) ∧ Aside0 (kq ≤ k1) ∧ Aside0 (Kd.V (Kd.slice 3 (Kd.int .i64)) 22 w' w.heap.size (fun k_ => (w.heap.size ≤ k_) ∧ some k_ ≠ (v5 : Value).ownBlock) u3 x3_1) ∧ Aside0 (Kd.R (Kd.int .i64) 3 w' w.heap.size (fun k_ => (w.heap.size ≤ k_)) v5 x5_2) ∧ Aside0 (Below w.heap.size w w'))
    case atStart => exact ⟨(([] : List Int)), (0), sd_, H', ⟨Nat.le_refl _⟩, ⟨by (with_reducible repeat (first | apply Kd.V_alloc | apply Kd.V_drewN | apply Kd.V_drew)); exact Kd.V_mono HO_3.out (fun _ hk => ⟨hk, (by simp [Value.ownBlock])⟩)⟩, ⟨by first | exact Kd.R_nil _ _ _ _ _ | exact Kd.N_nil _ _ _ _ _ | exact Kd.V_nil _ _ _ _ _ | exact Kd.Q_nil _ _ _ _ _ | exact Kd.S_nil _ _ _ _ _⟩, ⟨bw_⟩⟩
    case round =>
     clear H'
     try clear p2
     try clear c3
     try clear c3b0
     obtain ⟨x5_2, x6_2, rfl, HA, HK2, HO_3, HO_5, HB⟩ := hrel
     cases gk with
     |zero => exact absurd HA.out (by simp [torusref07_Faces.l1])
     |succ k2 =>
      have H := HA.out
      clear HA
      simp only [torusref07_Faces.l1] at H
      by_cases c4 : x6_2 < (l0.length : Int)
      ·rw [if_pos c4] at H
       have c4b0 : decide (x6_2 < (l0.length : Int)) = true := decide_eq_true c4
       clear c4
       by_cases c5 : 0 ≤ x6_2
       ·rw [if_pos c5] at H
        have c5b0 := eq_true c5
        have c5b1 : decide (0 ≤ x6_2) = true := decide_eq_true c5
        clear c5
        obtain ⟨ji6, hji6⟩ : ∃ j_ : Int, (shr .i64 x4_1 x6_2) = j_ := ⟨_, rfl⟩
        replace H : (if (Int.tmod (ji6) 2) = 1 then (if x5_2.length < 17592186044416 then (torusref07_Faces.l1 k2 l0 x3_1 x4_1 (x5_2 ++ [rd l0 x6_2]) (wrap64 (x6_2 + 1))) else (none)) else (torusref07_Faces.l1 k2 l0 x3_1 x4_1 x5_2 (wrap64 (x6_2 + 1)))) = some r := by first | (rw [hji6] at H; exact H) | (simp only [hji6] at H ⊢; exact H)
        have hji6_ : (x4_1 / 2 ^ min x6_2.toNat 64) = ji6 := hji6
        have hji6z : x6_2 ≤ 64 → (x4_1 / 2 ^ x6_2.toNat) = ji6 := shr_small hji6
        by_cases c7 : (Int.tmod (ji6) 2) = 1
        ·rw [if_pos c7] at H
         have c7b0 : ((Int.tmod (ji6) 2) == 1) = true := beq_iff_eq.mpr c7
         have c7b1 : ((Int.tmod (ji6) 2) != 1) = false := bne_eq_false_iff_eq.mpr c7
         clear c7
         by_cases c8 : x5_2.length < 17592186044416
         ·rw [if_pos c8] at H
          have LMc8 := Aside0.mk c8
          clear c8
          obtain ⟨y478, hy478⟩ : ∃ y_ : List Int, y_ = (x5_2 ++ [rd l0 x6_2]) := ⟨_, rfl⟩
          replace H : (torusref07_Faces.l1 k2 l0 x3_1 x4_1 y478 (wrap64 (x6_2 + 1))) = some r := by first | (rw [hy478]; with_reducible exact H) | (have H2_ := (Option.bind_some _ _).symm.trans H; rw [hy478]; with_reducible exact H2_) | (have H2_ := (Option.bind_some _ _).symm.trans H; with_reducible exact H2_) | with_reducible exact H | (rw [hy478]; exact H) | exact H
          have Ny478 := Aside0.mk hy478
          clear hy478
          have H' := Aside0.mk H
          clear H
          have p477 : 0 ≤ (x6_2 : Int) := of_decide_eq_true as_
          have q477 : x6_2 < (l0.length : Int) := of_decide_eq_true as_
          obtain ⟨ad477, e477, hx477_0⟩ := Kd.at_int HR0.out x6_2 p477 q477
          cases e477
          replace hx477_0 := (HB.out.cell (World.block_lt_of_cell? w _ hx477_0)).trans hx477_0
          replace p477 := eq_true p477
          replace q477 := eq_true q477
          go_wp2_with (first | ((with_reducible refine gate_builtin (b := .append) (xs := #[.tmp 25, .tmp 30]) rfl ?_); at_builtin; refine Kd.R_append (Kd.int .i64) (w0 := w) w.heap.size rfl (.tmp 25) (.tmp 30) 22 3 (.int .i64 0) 8 rfl Tryd.underlying22 info3 rfl (by decide) (by omega) u5 x5_2 (rd l0 x6_2) [.int .i64 (rd l0 x6_2)] (fun k_ => (w.heap.size ≤ k_)) (fun _ => False) rfl rfl ?aP (fun _ hk => hk.elim) ?aF ?aO ?aB ?aS ?aL ?_; (case aP => exact rfl); (case aB => exact bw_); (case aF => exact (fun k_ hk => (Nat.le_trans (below_size bw_) hk))); (case aO => exact (rRa_ HO_5.out)); (case aS => exact (below_size bw_)); (case aL => have := LMc8.out; omega); intro v479 w9 ho hb hg hat; rw [← Ny478.out] at ho; have n0_ := Aside0.mk (Kd.V_afterv (ok := (fun k_ => (w.heap.size ≤ k_))) (rVa_ HO_3.out) hg hat); have n1_ := Aside0.mk (hb); have n2_ := Aside0.mk (ho); clear HO_3; clear HB; clear HO_5; have HO_3 := n0_; have HB := n1_; have HO480 := n2_; clear n0_ n1_ n2_; clear ho hb hg hat))
          go_roundg k2
          case measure => have := HK1.out; have := HK2.out; omega
          case rel => exact ⟨(y478), (wrap64 (x6_2 + 1)), sd_, H', ⟨by have := HK1.out; have := HK2.out; omega⟩, ⟨rVa_ HO_3.out⟩, ⟨rRa_ HO480.out⟩, ⟨bw_⟩⟩
         ·rw [if_neg c8] at H
          exact absurd H (by simp)
        ·rw [if_neg c7] at H
         have c7b0 : ((Int.tmod (ji6) 2) == 1) = false := beq_eq_false_iff_ne.mpr c7
         have c7b1 : ((Int.tmod (ji6) 2) != 1) = true := bne_iff_ne.mpr c7
         have H' := Aside0.mk H
         clear H
         go_wp2
         go_roundg k2
         case measure => have := HK1.out; have := HK2.out; omega
         case rel => exact ⟨(x5_2), (wrap64 (x6_2 + 1)), sd_, H', ⟨by have := HK1.out; have := HK2.out; omega⟩, ⟨rVa_ HO_3.out⟩, ⟨rRa_ HO_5.out⟩, ⟨bw_⟩⟩
       ·rw [if_neg c5] at H
        exact absurd H (by simp)
      ·rw [if_neg c4] at H
       have c4b0 : decide (x6_2 < (l0.length : Int)) = false := decide_eq_false c4
       clear c4
       replace H := Option.bind_eq_some_iff.mp H
       obtain ⟨t481, A100, H⟩ := H
       have A10 := Aside0.mk A100
       clear A100
       have H' := Aside0.mk H
       clear H
       obtain ⟨Ao11, co11, eo11⟩ := Kd.V_slice HO_3.out
       subst eo11
       obtain ⟨Ao12, co12, eo12⟩ := Kd.R_slice HO_5.out
       subst eo12
       go_wp2_with (first | ((with_reducible refine gate_callee (f := 51) rfl ?_); refine goesL_ (some 34) rfl rfl Tryd.func51 (by kernel_rfl) rfl #[.slice Ao11 x3_1.length co11, .slice Ao12 x5_2.length co12] rfl ag_ ?_; (with_reducible refine (torusref07_Put.calls k2 (fun k_ => ((w.heap.size ≤ k_) ∧ some k_ ≠ (.slice Ao12 x5_2.length co12 : Value).ownBlock)) _ _ x3_1 (fun k_ => some k_ = (.slice Ao12 x5_2.length co12 : Value).ownBlock) _ _ x5_2 t481 _ ?side1 ?side2 A10.out).mono ?_); (case side1 => exact HO_3.out); (case side2 => exact Kd.R_V (Kd.R_tight rfl (HO_5.out))); rintro e w13 ⟨v482, rfl, ho0, hb⟩; refine ⟨_, rfl, ?_⟩; have n0_ := Aside0.mk (Kd.V_below (rVa_ HO_3.out) hb); have n1_ := Aside0.mk (Kd.R_below (rRa_ HO_5.out) hb); have n2_ := Aside0.mk (Kd.V_lower (Kd.V_mono (ok' := fun k_ => (w.heap.size ≤ k_)) ho0 (fun k_ hk_ => Or.elim hk_ (fun hs_ => Or.elim hs_ (fun hs_ => hs_.1) (fun hs_ => ((HO_5.out).1 k_ hs_.symm))) (fun hn_ => (Nat.le_trans (below_size bw_) hn_)))) (below_size bw_)); have n3_ := Aside0.mk (below_step bw_ hb); clear HO_3; clear HO_5; clear HB; have HO_3 := n0_; have HO_5 := n1_; have HO483 := n2_; have HB := n3_; clear n0_ n1_ n2_ n3_; (try clear hb); (try clear hb2); (try clear hk); (try clear hi); (try clear ho0)))
       go_roundg k2
       case measure => have := HK1.out; have := HK2.out; omega
       case rel => exact ⟨(t481), (wrap64 (x4_1 + 1)), sd_, H', ⟨by have := HK1.out; have := HK2.out; omega⟩, ⟨rVa_ HO483.out⟩, ⟨bw_⟩⟩
   ·rw [if_neg c3] at H
    have c3b0 : decide (x4_1 < (ji2)) = false := decide_eq_false c3
    clear c3
    obtain rfl := Option.some.inj H
    go_wp2
    go_ret
    exact ⟨_, by first | rfl | (simp [errW_none, errW_some] <;> rfl) | (simp only [← hji2]; first | rfl | (simp [errW_none, errW_some] <;> rfl)) | (simp [*, errW_none, errW_some] <;> rfl), rVa_ HO_3.out, bw_⟩

end Go.Proofs.YticckanjfdcpaaaDoor.PSimplex
