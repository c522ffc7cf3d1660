/-
  A RANGE OVER A FUNCTION: steps on maps inside a fence; an iterator's contract (it may have a block of its own); the statement's law.
-/
import Derived.Test.YtobjdhpdljiijaaMpA
import Derived.RangeFuncNested
import Derived.RangeFuncBound
import Derived.RangeFuncCalls
import Derived.RangeFuncLeaves
import Derived.RangeFuncBox
import Derived.WalkKit
import Derived.OwnWalkIn
import Derived.TacticsInMore
import Derived.LoopNIn
import Derived.LoopIn
namespace Go.Proofs.Ytobjdhpdljiijaa
open Go.RowKit Go.MapKept
set_option linter.unusedVariables false

section
variable {P : Program} {k e t : TypeId} {κ : Type} {kv : κ → Value} {ok : κ → Prop} {w w' : World} {b : Nat} {l : List (κ × Value)} {ops : Array Oper} {rest : List Oper} {o : Oper} {a : Act} {Q : Exit → Act → World → Prop} {F : Fence} {n : Nat}
theorem RngB.walks {r : Nat} {d : List (κ × Value)} (h : RngB kv ok w b r l d) (hk : KeepsWalks w w') : RngB kv ok w' b r l d := by
  have h0 := h
  obtain ⟨es, clock, since, seen, c0, h1, h2, h3, h4, h5, h6⟩ := h
  exact h0.same ((hk.same b _ h1 rfl).trans h1.symm) ((hk.same r _ h5 rfl).trans h5.symm)
theorem RngB.walk {r : Nat} {d : List (κ × Value)} (h : RngB kv ok w b r l d) : ∃ o : Obj, w.heap[r]? = some o ∧ o.isWalk = true := by
  obtain ⟨es, clock, since, seen, c0, h1, h2, h3, h4, h5, h6⟩ := h
  exact ⟨_, h5, rfl⟩
theorem wpListIn_mapRange (hg : o.guard = none) (m : Operand) (hop : o.op = .range t m) (ht : P.underlying t = some (.map k e)) (hm : a.eval m = .map (some b)) (h : MapB kv ok w b l)
    (hK : ∀ w', RngB kv ok w' b w.heap.size l [] → Below w.heap.size w w' → w'.heap.size = w.heap.size + 1 → wpListIn F n P ops Q rest (a.put o.dst (.pointer (some ⟨w.heap.size, 0, none⟩))) w') : wpListIn F n P ops Q (o :: rest) a w := by
  refine wpListIn_plain hg fun K' hK' => ?_
  obtain ⟨w', hrun, r1, r2, r3⟩ := h.range ht
  unfold Oper.wpIn
  refine ⟨by simp [Oper.about, hop], ?_⟩
  rw [Oper.semAt_plain F _ _ (by rw [hop]; intro c hc'; cases hc')]
  simp [execOp, hop, hm, hrun, Result.andThen]
  exact hK' _ _ (hK w' r1 r2 r3)
theorem wpListIn_mapNext (hg : o.guard = none) (it : Operand) (hop : o.op = .next it false) (K : KeyK P k kv ok) {r : Nat} {d : List (κ × Value)} (hit : a.eval it = .pointer (some ⟨r, 0, none⟩)) (h : RngB kv ok w b r l d)
    (hDone : (∀ p ∈ l, p ∈ d) → wpListIn F n P ops Q rest (a.put o.dst (.tuple #[.bool false])) w)
    (hMore : ∀ p w', p ∈ l → p ∉ d → RngB kv ok w' b r l (d ++ [p]) → w.grownBy w' (some r) → w'.heap.size = w.heap.size → (Instr.entry (.pointer (some ⟨r, 0, none⟩))).run P w' = .ok (.tuple #[kv p.1, p.2]) w' →
      wpListIn F n P ops Q rest (a.put o.dst (.tuple #[.bool true, kv p.1, p.2])) w') : wpListIn F n P ops Q (o :: rest) a w := by
  refine wpListIn_plain hg fun K' hK' => ?_
  unfold Oper.wpIn
  refine ⟨by simp [Oper.about, hop], ?_⟩
  rw [Oper.semAt_plain F _ _ (by rw [hop]; intro c hc'; cases hc')]
  rcases h.next K o.type with ⟨h0, hrun⟩ | ⟨p, w', h1, h2, hrun, h3, h4, h5, h6, h7⟩
  · simp [execOp, hop, hit, hrun, Result.andThen]
    exact hK' _ _ (hDone h0)
  · simp [execOp, hop, hit, hrun, Result.andThen]
    exact hK' _ _ (hMore p w' h1 h2 h3 h4 h5 h6)
end
section
variable {P : Program} {F : Fence} {n : Nat}
/-- what an iterator may turn: an object of a walk laid since it was called, or a block of its own -/
def TurnsX (B : Nat) (hb : Option Nat) (A : World) (row : Option Nat) : Prop := ∀ r, row = some r → hb = some r ∨ (B ≤ r ∧ ∃ o : Obj, A.heap[r]? = some o ∧ o.isWalk = true)
/-- what the law itself may turn: what is no cells, laid since -/
def TurnsL (B : Nat) (A : World) (row : Option Nat) : Prop := ∀ r, row = some r → B ≤ r ∧ ∃ o : Obj, A.heap[r]? = some o ∧ o.isCells = false
/-- what a round that goes on keeps -/
def KpX (B : Nat) (W W' : World) : Prop := KeepsWalks W W' ∧ Below B W W'
theorem KpX.tr {B : Nat} {X Y Z : World} (h : KpX B X Y) (k : KpX B Y Z) : KpX B X Z := ⟨h.1.trans k.1, h.2.trans k.2⟩
theorem KpX.put {B l : Nat} {W : World} {o : Obj} (o' : Obj) (hB : B ≤ l) (h : W.heap[l]? = some o) (hw : o.isWalk = false) : KpX B W (W.putObj l o') :=
  ⟨KeepsWalks.putObj _ h hw, (Below.refl B W).grown (grownBy_putObj' W l o') (by have := (Array.getElem?_eq_some_iff.1 h).1; omega) (fun k e => by cases e; exact hB)⟩
/-- AN ITERATOR: whatever J the caller keeps, so it abides the iterator's turns; whatever the rounds do, so they carry J on and keep what they owe -/
def SeqX {α : Type} (F : Fence) (n : Nat) (P : Program) (g : Nat) (lb : Array Value) (encs : α → Array Value) (hb : Option Nat) (n₀ : Nat) (S Sp : List α → Prop) (N : Nat) (w : World) : Prop :=
  ∀ (l : Nat) (J Jx : List α → World → Prop) (W : World), Below w.heap.size w W → (∀ s A C row, J s A → A.grownBy C row → TurnsX W.heap.size hb A row → J s C) →
    (∀ pre x W1, J pre W1 → pre.length < N → YieldAt F (n - 1) P l (encs x) W1 fun e W' => (e = .returned (.bool true) ∧ J (pre ++ [x]) W' ∧ KpX n₀ W1 W') ∨ (e = .returned (.bool false) ∧ Jx (pre ++ [x]) W')) →
    J [] W →
    CallsIn F n P g (#[.func (.yield l) #[] #[]] ++ lb) W fun e W' => (∃ v, e = .returned v) ∧ ((∃ xs, S xs ∧ J xs W') ∨ (∃ pre, Sp pre ∧ Jx pre W'))
/-- THE STATEMENT -/
theorem range_any {α : Type} {g : Operand} {ps : Array Tmp} {assign body : Code} {Q : Exit → Act → World → Prop} {a : Act} {w : World}
    (hro : F.round = none) (h1 : 1 ≤ n) {gf : Nat} {lb : Array Value} (hg : a.eval g = .func (.func gf) #[] lb) (hFg : F.fn gf) (eg : ∀ args w, (callFunc gf args).run P w = .ok (.enter gf args) w)
    {encs : α → Array Value} {hb : Option Nat} {n₀ : Nat} {S Sp : List α → Prop} {N : Nat} (hn₀ : n₀ ≤ w.heap.size) (hhb : ∀ r, hb = some r → r < w.heap.size) (hseq : SeqX F (n - 1) P gf lb encs hb n₀ S Sp N w) (hps : ∀ x, (encs x).size = ps.size)
    (I : List α → World → Prop) (Ix : Code → List α → World → Prop)
    (hI : ∀ s A C row, I s A → A.grownBy C row → (∀ r, row = some r → hb = some r ∨ (w.heap.size ≤ r ∧ ∃ o : Obj, A.heap[r]? = some o ∧ o.isCells = false)) → I s C)
    (hIx : ∀ c s A C row, Ix c s A → A.grownBy C row → TurnsL w.heap.size A row → Ix c s C) (h0 : I [] w) (a₁ : α → Act)
    (hassign : ∀ (l : Nat) (x : α) (W : World) (K : Act → World → Prop), K (a₁ x) W →
      assign.wpIn (F.inRound l) (n - 1 - 1) P (Exit.then K (fun _ _ _ => False)) { tmps := (ps.zip (encs x)).foldl (fun t (p, v) => t.setIfInBounds p v) a.tmps, defers := [] } W)
    (hbody : ∀ (l : Nat) (pre : List α) (x : α) (W : World), I pre W → pre.length < N → body.wpIn (F.inRound l) (n - 1 - 1) P (ownPostG w.heap.size (KpX n₀) I Ix (pre ++ [x]) W) (a₁ x) W)
    (hdone : ∀ (D : Nat) (xs : List α) (W : World), w.heap.size ≤ D → S xs → I xs W → W.heap[D]? = some (.deferred (some [])) → Q .normal { a with defers := { target := .collected D, args := #[] } :: a.defers } W)
    (hstop : ∀ (D : Nat) (c : Code) (pre : List α) (W : World), w.heap.size ≤ D → Sp pre → Ix c pre W → W.heap[D]? = some (.deferred (some [])) → c.wpIn F n P Q { a with defers := { target := .collected D, args := #[] } :: a.defers } W) :
    (Code.rangeFunc g ps assign body).wpIn F n P Q a w := by
  have hIp : ∀ {s : List α} {W : World} {l : Nat} {o : Obj} (o' : Obj), I s W → w.heap.size ≤ l → W.heap[l]? = some o → o.isCells = false → I s (W.putObj l o') := fun {s W l o} o' hi hl h hc =>
    hI s W _ (some l) hi (grownBy_putObj' W l o') fun r e => by cases e; exact .inr ⟨hl, o, h, hc⟩
  have hXp : ∀ {c : Code} {s : List α} {W : World} {l : Nat} {o : Obj} (o' : Obj), Ix c s W → w.heap.size ≤ l → W.heap[l]? = some o → o.isCells = false → Ix c s (W.putObj l o') := fun {c s W l o} o' hi hl h hc =>
    hIx c s W _ (some l) hi (grownBy_putObj' W l o') fun r e => by cases e; exact ⟨hl, o, h, hc⟩
  have hIa : ∀ {s : List α} {W : World} (o' : Obj), I s W → I s (W.alloc o') := fun {s W} o' hi => hI s W _ none hi ⟨rfl, rfl, rfl, by simp, fun i hi _ => Below.heap_alloc W o' i hi⟩ fun r e => by cases e
  refine wpIn_rangeFunc fun fn hfn => ?_
  rw [hro]
  obtain ⟨R, hR⟩ : ∃ R : LoopState → Option Code → Loop, R = fun st pe => { state := st, pending := pe, fn, tmps := a.tmps, params := ps, assign, body, defers := w.heap.size } := ⟨_, rfl⟩
  obtain ⟨W1, hW1⟩ : ∃ W1, (w.alloc (.deferred (some []))).alloc (.loop (R .ready none)) = W1 := ⟨_, rfl⟩
  obtain ⟨l, hl⟩ : ∃ l, l = w.heap.size + 1 := ⟨_, rfl⟩
  obtain ⟨D, hD⟩ : ∃ D, D = w.heap.size := ⟨_, rfl⟩
  have L1 : W1.heap[l]? = some (.loop (R .ready none)) := by
    rw [← hW1, hl]
    have := World.alloc_heap_new (w.alloc (.deferred (some []))) (.loop (R .ready none))
    rwa [World.size_alloc] at this
  have K1 : W1.heap[D]? = some (.deferred (some [])) := by
    rw [← hW1, hD]
    exact (Below.heap_alloc _ _ _ (by simp)).trans (World.alloc_heap_new w _)
  have S1 : w.heap.size ≤ W1.heap.size := by rw [← hW1]; simp; omega
  have B1 : Below w.heap.size w W1 := by rw [← hW1]; exact ((Below.refl _ w).alloc (Nat.le_refl _) _).alloc (by simp) _
  have I1 : I [] W1 := by rw [← hW1]; exact hIa _ (hIa _ h0)
  refine ⟨l, [{ target := .collected w.heap.size, args := #[] }], W1, { target := .fn (.func gf) lb, args := #[.func (.yield l) #[] #[]] }, W1, gf, #[.func (.yield l) #[] #[]] ++ lb, W1, ?_, ?_, ?_, ?_, fun _ => h1, ?_⟩
  · rw [← hW1, hR, hl]; exact run_enterLoop_outer _ _ _ _ _
  · simp only [resolve, hg]
    simp [go_sem]
  · intro f' hf'
    simp [Target.leads] at hf'
    subst hf'
    exact hFg
  · simp [invoke, go_sem, eg]
  refine (hseq l (fun pre W => I pre W ∧ W.heap[l]? = some (.loop (R .ready none)) ∧ W.heap[D]? = some (.deferred (some [])))
    (fun pre W => ∃ c, Ix c pre W ∧ W.heap[l]? = some (.loop (R .done (some c))) ∧ W.heap[D]? = some (.deferred (some []))) W1 B1 ?_ ?_ ⟨I1, L1, K1⟩).mono ?_
  · rintro s A C row ⟨hi, hl2, hk2⟩ hgr ht
    have far : ∀ {j : Nat} {o : Obj}, w.heap.size ≤ j → A.heap[j]? = some o → o.isWalk = false → C.heap[j]? = some o := fun {j o} hj ho hw => by
      refine (hgr.block j (Array.getElem?_eq_some_iff.1 ho).1 fun e => ?_).trans ho
      rcases ht j e.symm with h | ⟨_, o', h3, h4⟩
      · have := hhb j h; omega
      · rw [ho] at h3; cases h3; rw [hw] at h4; cases h4
    refine ⟨hI s A C row hi hgr fun r e => ?_, far (by omega) hl2 rfl, far (by omega) hk2 rfl⟩
    rcases ht r e with h | ⟨h2, o, h3, h4⟩
    · exact .inl h
    · exact .inr ⟨by omega, o, h3, Obj.not_cells_of_walk h4⟩
  · rintro pre x W ⟨hi, hl2, hk2⟩ hlen
    have hlt := (Array.getElem?_eq_some_iff.1 hl2).1
    have hy := run_yield (P := P) (args := encs x) hl2 (by rw [hR]; exact hps x)
    rw [hR] at hy
    refine ⟨fn, _, assign, body, hy, roundIn_of_wpIn hfn (hassign _ x W _ ⟨_, run_beginRound hl2 (by rw [hR]), ?_⟩)⟩
    obtain ⟨W2, hW2⟩ : ∃ W2, W.putObj l (.loop { R .ready none with state := .busy }) = W2 := ⟨_, rfl⟩
    have L2 : W2.heap[l]? = some (.loop { R .ready none with state := .busy }) := by rw [← hW2]; exact World.putObj_heap_same hlt
    have K2 : W2.heap[D]? = some (.deferred (some [])) := by rw [← hW2]; exact (World.putObj_heap_other (by omega)).trans hk2
    have P2 : KpX n₀ W W2 := by rw [← hW2]; exact KpX.put _ (by omega) hl2 rfl
    have I2 : I pre W2 := by rw [← hW2]; exact hIp _ hi (by omega) hl2 rfl
    rw [hW2]
    have fin : ∀ (jump : Option Code) (W3 : World), KeepsFrom w.heap.size W2 W3 →
        (Instr.endRound l jump).run P W3 = .ok (.bool jump.isNone) (W3.putObj l (.loop (R (if jump.isNone then .ready else .done) jump))) ∧ W3.heap[l]? = some (.loop { R .ready none with state := .busy }) ∧
        (W3.putObj l (.loop (R (if jump.isNone then .ready else .done) jump))).heap[l]? = some (.loop (R (if jump.isNone then .ready else .done) jump)) ∧
        (W3.putObj l (.loop (R (if jump.isNone then .ready else .done) jump))).heap[D]? = some (.deferred (some [])) := fun jump W3 hk3 => by
      have L3 := hk3.same l _ (by omega) L2 rfl
      have h4 := run_endRound (P := P) jump L3
      have L4 := L3
      rw [hR] at h4 L3 ⊢
      exact ⟨h4, L3, World.putObj_heap_same (Array.getElem?_eq_some_iff.1 L3).1, (World.putObj_heap_other (by omega)).trans (hk3.same D _ (by omega) K2 rfl)⟩
    refine wpIn_mono (hbody l pre x W2 I2 hlen) ?_
    rintro e a3 W3 hp
    cases e with
    | normal =>
      obtain ⟨hk3, hkp3, hi3⟩ := hp
      obtain ⟨hr, hl3, hl4, hk4⟩ := fin none W3 hk3
      exact ⟨_, _, hr, .inl ⟨rfl, ⟨hIp _ hi3 (by omega) hl3 rfl, hl4, hk4⟩, (P2.tr hkp3).tr (KpX.put _ (by omega) hl3 rfl)⟩⟩
    | ret =>
      obtain ⟨hk3, hi3⟩ := hp
      obtain ⟨hr, hl3, hl4, hk4⟩ := fin (some .ret) W3 hk3
      exact ⟨_, _, hr, .inr ⟨rfl, .ret, hXp _ hi3 (by omega) hl3 rfl, hl4, hk4⟩⟩
    | exit id =>
      obtain ⟨hk3, hi3⟩ := hp
      obtain ⟨hr, hl3, hl4, hk4⟩ := fin (some (.exit id)) W3 hk3
      exact ⟨_, _, hr, .inr ⟨rfl, .exit id, hXp _ hi3 (by omega) hl3 rfl, hl4, hk4⟩⟩
    | goto t =>
      obtain ⟨hk3, hi3⟩ := hp
      obtain ⟨hr, hl3, hl4, hk4⟩ := fin (some (.goto t)) W3 hk3
      exact ⟨_, _, hr, .inr ⟨rfl, .goto t, hXp _ hi3 (by omega) hl3 rfl, hl4, hk4⟩⟩
    | panic ch => exact hp.elim
    | outgrown => exact hp.elim
  · have hDz : ({ target := .collected w.heap.size, args := #[] } : Deferred) = { target := .collected D, args := #[] } := by rw [hD]
    rintro e W2 ⟨⟨v, rfl⟩, (⟨xs, hS, hi, hl2, hk2⟩ | ⟨pre, hSp, c, hi, hl2, hk2⟩)⟩
    · have h4 := run_endLoop (P := P) hl2 (by rw [hR]; simp)
      rw [hR] at h4
      refine ⟨none, _, h4, ?_⟩
      simp only [List.cons_append, List.nil_append]
      rw [hDz]
      exact hdone D xs _ (by omega) hS (hIp _ hi (by omega) hl2 rfl) ((World.putObj_heap_other (by omega)).trans hk2)
    · have h4 := run_endLoop (P := P) hl2 (by rw [hR]; simp)
      rw [hR] at h4
      refine ⟨some c, _, h4, ?_⟩
      simp only [List.cons_append, List.nil_append]
      rw [hDz]
      exact hstop D c pre _ (by omega) hSp (hXp _ hi (by omega) hl2 rfl) ((World.putObj_heap_other (by omega)).trans hk2)
end
end Go.Proofs.Ytobjdhpdljiijaa
