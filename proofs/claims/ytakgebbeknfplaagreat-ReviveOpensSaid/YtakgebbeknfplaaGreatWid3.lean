/-
  A REGION THAT DRAWS ITS ORDER whose first two or three operations stand side by side, whether they make memory or only read; what is behind them waits for all of them.
  A REGION THAT DRAWS ITS ORDER, in whose head every operation has a contract of its own (it may make memory, it may be a call): walked once; of each slot just what its contract says is known behind it.
  KIT OF OURS: a drawn region's head of many operations (as Free), judged without going through all orders.
  KIT OF OURS: a drawn region's head with operations that stand behind '&&' and '||' (as Wide).
-/
import Derived.Test.YtakgebbeknfplaaGreatGhA
import Derived.Test.YtakgebbeknfplaaGreatCtC
import Derived.Test.YtakgebbeknfplaaGreatCtF
namespace Go.Proofs.YtakgebbeknfplaaGreat
open Go.RowKit
set_option linter.unusedVariables false

theorem put_comm {d e : Tmp} (h : d ≠ e) (a : Act) (u v : Value) : (a.put (some d) u).put (some e) v = (a.put (some e) v).put (some d) u := by
  simp only [Act.put]
  rw [Array.setIfInBounds_comm _ _ h]
theorem eval_put_ne {d t : Tmp} (h : d ≠ t) (a : Act) (u : Value) : (a.put (some d) u).eval (.tmp t) = a.eval (.tmp t) := by
  simp only [Act.put, Act.eval, Array.getD_eq_getD_getElem?]
  rw [Array.getElem?_setIfInBounds_ne h]
section
variable {P : Program} {Q : Exit → Act → World → Prop} {w0 : World} {A : Act → Prop}
/-- one that hands back something of which R is known, in whatever world above the first one -/
structure HeadOp (P : Program) (w0 : World) (A : Act → Prop) (o : Oper) (d : Tmp) (R : Value → World → Prop) : Prop where
  guard : o.guard = none
  dst : o.dst = some d
  run : ∀ a W, A a → Below w0.heap.size w0 W → ∃ v W', (execOp a.eval o).run P W = .ok (.value v) W' ∧ R v W' ∧ Below w0.heap.size w0 W' ∧ Below W.heap.size W W'
theorem head_step {ops : Array Oper} {i : Nat} {o : Oper} {d : Tmp} {R : Value → World → Prop} {K : Act → World → Prop} {a : Act} {W : World} (h : HeadOp P w0 A o d R) (hi : ops[i]? = some o) (ha : A a) (hb : Below w0.heap.size w0 W)
    (hK : ∀ v W', R v W' → Below w0.heap.size w0 W' → Below W.heap.size W W' → K (a.put (some d) v) W') : wpOp P ops Q i K a W := by
  obtain ⟨v, W', hr, hR, hb2, hb3⟩ := h.run a W ha hb
  unfold wpOp
  rw [hi]
  simp only
  rw [if_pos (by simp [Region.wanted, h.guard])]
  refine .inl ?_
  unfold Oper.wp
  rw [hr]
  simp only [Oper.upon, h.dst]
  exact hK v W' hR hb2 hb3
def Mono (R : Value → World → Prop) : Prop := ∀ v W W', R v W → Below W.heap.size W W' → R v W'

def heads2B (ops : Array Oper) : Bool :=
  let s0 := Array.replicate ops.size false
  decide (Region.ready .any ops s0 = [0, 1]) &&
  decide (Region.ready .any ops (s0.setIfInBounds 0 true) = [1]) &&
  decide (Region.ready .any ops (s0.setIfInBounds 1 true) = [0])
theorem wp_heads2 {id : Nat} {a : Act} {w : World} {l : List Oper} (f : Nat) {o0 o1 : Oper} {d0 d1 : Tmp} {R0 R1 : Value → World → Prop} (A : Act → Prop)
    (hm : P.follows .mixedOrders = true) (hsz : l.length = f + 2) (h0 : l[0]? = some o0) (h1 : l[1]? = some o1) (hB : heads2B l.toArray = true)
    (H0 : HeadOp P w A o0 d0 R0) (H1 : HeadOp P w A o1 d1 R1) (M0 : Mono R0) (M1 : Mono R1) (n01 : d0 ≠ d1)
    (hA : A a) (hA0 : ∀ a v, A a → A (a.put (some d0) v)) (hA1 : ∀ a v, A a → A (a.put (some d1) v))
    (h : ∀ v0 v1 w', R0 v0 w' → R1 v1 w' → Below w.heap.size w w' → wpAny P .any l.toArray Q f (((Array.replicate l.toArray.size false).setIfInBounds 0 true).setIfInBounds 1 true) (((a.put (some d0) v0).put (some d1) v1)) w') : (Code.region id l.toArray true).wp P Q a w := by
  simp only [heads2B, Bool.and_eq_true, decide_eq_true_eq] at hB
  obtain ⟨⟨r, q0⟩, q1⟩ := hB
  have hsz' : l.toArray.size = f + 2 := by simpa using hsz
  refine wp_region_any hm ?_
  rw [show wpAny P .any l.toArray Q l.toArray.size = wpAny P .any l.toArray Q (f + 2) from by rw [hsz']]
  have hb0 : Below w.heap.size w { w with drawn := w.drawn + 1 } := (Below.refl _ w).drew
  refine ⟨fun e => absurd (r.symm.trans e) (by simp), fun i hi => ?_⟩
  rw [r] at hi
  simp only [List.mem_cons, List.not_mem_nil, or_false] at hi
  rcases hi with rfl | rfl
  · refine head_step H0 (by simpa using h0) hA hb0 (fun v0 W0 rr0 b0 s0 => ?_)
    refine ⟨fun e => absurd (q0.symm.trans e) (by simp), fun i hi => ?_⟩
    rw [q0] at hi
    simp only [List.mem_cons, List.not_mem_nil, or_false] at hi
    subst hi
    refine head_step H1 (by simpa using h1) (hA0 _ _ hA) b0 (fun v1 W1 rr1 b1 s1 => ?_)
    exact h v0 v1 _ (M0 _ _ _ rr0 s1) rr1 b1
  · refine head_step H1 (by simpa using h1) hA hb0 (fun v1 W1 rr1 b1 s1 => ?_)
    refine ⟨fun e => absurd (q1.symm.trans e) (by simp), fun i hi => ?_⟩
    rw [q1] at hi
    simp only [List.mem_cons, List.not_mem_nil, or_false] at hi
    subst hi
    refine head_step H0 (by simpa using h0) (hA1 _ _ hA) b1 (fun v0 W0 rr0 b0 s0 => ?_)
    rw [put_comm n01.symm _ v1 v0]
    rw [show ((Array.replicate l.toArray.size false).setIfInBounds 1 true).setIfInBounds 0 true = ((Array.replicate l.toArray.size false).setIfInBounds 0 true).setIfInBounds 1 true from Array.setIfInBounds_comm _ _ (by decide)]
    exact h v0 v1 _ rr0 (M1 _ _ _ rr1 s0) b0

def heads3B (ops : Array Oper) : Bool :=
  let s0 := Array.replicate ops.size false
  decide (Region.ready .any ops s0 = [0, 1, 2]) &&
  decide (Region.ready .any ops (s0.setIfInBounds 0 true) = [1, 2]) &&
  decide (Region.ready .any ops (s0.setIfInBounds 1 true) = [0, 2]) &&
  decide (Region.ready .any ops (s0.setIfInBounds 2 true) = [0, 1]) &&
  decide (Region.ready .any ops ((s0.setIfInBounds 0 true).setIfInBounds 1 true) = [2]) &&
  decide (Region.ready .any ops ((s0.setIfInBounds 0 true).setIfInBounds 2 true) = [1]) &&
  decide (Region.ready .any ops ((s0.setIfInBounds 1 true).setIfInBounds 0 true) = [2]) &&
  decide (Region.ready .any ops ((s0.setIfInBounds 1 true).setIfInBounds 2 true) = [0]) &&
  decide (Region.ready .any ops ((s0.setIfInBounds 2 true).setIfInBounds 0 true) = [1]) &&
  decide (Region.ready .any ops ((s0.setIfInBounds 2 true).setIfInBounds 1 true) = [0])
theorem wp_heads3 {id : Nat} {a : Act} {w : World} {l : List Oper} (f : Nat) {o0 o1 o2 : Oper} {d0 d1 d2 : Tmp} {R0 R1 R2 : Value → World → Prop} (A : Act → Prop)
    (hm : P.follows .mixedOrders = true) (hsz : l.length = f + 3) (h0 : l[0]? = some o0) (h1 : l[1]? = some o1) (h2 : l[2]? = some o2) (hB : heads3B l.toArray = true)
    (H0 : HeadOp P w A o0 d0 R0) (H1 : HeadOp P w A o1 d1 R1) (H2 : HeadOp P w A o2 d2 R2) (M0 : Mono R0) (M1 : Mono R1) (M2 : Mono R2) (n01 : d0 ≠ d1) (n02 : d0 ≠ d2) (n12 : d1 ≠ d2)
    (hA : A a) (hA0 : ∀ a v, A a → A (a.put (some d0) v)) (hA1 : ∀ a v, A a → A (a.put (some d1) v)) (hA2 : ∀ a v, A a → A (a.put (some d2) v))
    (h : ∀ v0 v1 v2 w', R0 v0 w' → R1 v1 w' → R2 v2 w' → Below w.heap.size w w' → wpAny P .any l.toArray Q f ((((Array.replicate l.toArray.size false).setIfInBounds 0 true).setIfInBounds 1 true).setIfInBounds 2 true) ((((a.put (some d0) v0).put (some d1) v1).put (some d2) v2)) w') : (Code.region id l.toArray true).wp P Q a w := by
  simp only [heads3B, Bool.and_eq_true, decide_eq_true_eq] at hB
  obtain ⟨⟨⟨⟨⟨⟨⟨⟨⟨r, q0⟩, q1⟩, q2⟩, q3⟩, q4⟩, q5⟩, q6⟩, q7⟩, q8⟩ := hB
  have hsz' : l.toArray.size = f + 3 := by simpa using hsz
  refine wp_region_any hm ?_
  rw [show wpAny P .any l.toArray Q l.toArray.size = wpAny P .any l.toArray Q (f + 3) from by rw [hsz']]
  have hb0 : Below w.heap.size w { w with drawn := w.drawn + 1 } := (Below.refl _ w).drew
  refine ⟨fun e => absurd (r.symm.trans e) (by simp), fun i hi => ?_⟩
  rw [r] at hi
  simp only [List.mem_cons, List.not_mem_nil, or_false] at hi
  rcases hi with rfl | rfl | rfl
  · refine head_step H0 (by simpa using h0) hA hb0 (fun v0 W0 rr0 b0 s0 => ?_)
    refine ⟨fun e => absurd (q0.symm.trans e) (by simp), fun i hi => ?_⟩
    rw [q0] at hi
    simp only [List.mem_cons, List.not_mem_nil, or_false] at hi
    rcases hi with rfl | rfl
    · refine head_step H1 (by simpa using h1) (hA0 _ _ hA) b0 (fun v1 W1 rr1 b1 s1 => ?_)
      refine ⟨fun e => absurd (q3.symm.trans e) (by simp), fun i hi => ?_⟩
      rw [q3] at hi
      simp only [List.mem_cons, List.not_mem_nil, or_false] at hi
      subst hi
      refine head_step H2 (by simpa using h2) (hA1 _ _ (hA0 _ _ hA)) b1 (fun v2 W2 rr2 b2 s2 => ?_)
      exact h v0 v1 v2 _ (M0 _ _ _ (M0 _ _ _ rr0 s1) s2) (M1 _ _ _ rr1 s2) rr2 b2
    · refine head_step H2 (by simpa using h2) (hA0 _ _ hA) b0 (fun v2 W2 rr2 b2 s2 => ?_)
      refine ⟨fun e => absurd (q4.symm.trans e) (by simp), fun i hi => ?_⟩
      rw [q4] at hi
      simp only [List.mem_cons, List.not_mem_nil, or_false] at hi
      subst hi
      refine head_step H1 (by simpa using h1) (hA2 _ _ (hA0 _ _ hA)) b2 (fun v1 W1 rr1 b1 s1 => ?_)
      rw [put_comm n12.symm _ v2 v1]
      rw [show (((Array.replicate l.toArray.size false).setIfInBounds 0 true).setIfInBounds 2 true).setIfInBounds 1 true = (((Array.replicate l.toArray.size false).setIfInBounds 0 true).setIfInBounds 1 true).setIfInBounds 2 true from Array.setIfInBounds_comm _ _ (by decide)]
      exact h v0 v1 v2 _ (M0 _ _ _ (M0 _ _ _ rr0 s2) s1) rr1 (M2 _ _ _ rr2 s1) b1
  · refine head_step H1 (by simpa using h1) hA hb0 (fun v1 W1 rr1 b1 s1 => ?_)
    refine ⟨fun e => absurd (q1.symm.trans e) (by simp), fun i hi => ?_⟩
    rw [q1] at hi
    simp only [List.mem_cons, List.not_mem_nil, or_false] at hi
    rcases hi with rfl | rfl
    · refine head_step H0 (by simpa using h0) (hA1 _ _ hA) b1 (fun v0 W0 rr0 b0 s0 => ?_)
      refine ⟨fun e => absurd (q5.symm.trans e) (by simp), fun i hi => ?_⟩
      rw [q5] at hi
      simp only [List.mem_cons, List.not_mem_nil, or_false] at hi
      subst hi
      refine head_step H2 (by simpa using h2) (hA0 _ _ (hA1 _ _ hA)) b0 (fun v2 W2 rr2 b2 s2 => ?_)
      rw [put_comm n01.symm _ v1 v0]
      rw [show ((Array.replicate l.toArray.size false).setIfInBounds 1 true).setIfInBounds 0 true = ((Array.replicate l.toArray.size false).setIfInBounds 0 true).setIfInBounds 1 true from Array.setIfInBounds_comm _ _ (by decide)]
      exact h v0 v1 v2 _ (M0 _ _ _ rr0 s2) (M1 _ _ _ (M1 _ _ _ rr1 s0) s2) rr2 b2
    · refine head_step H2 (by simpa using h2) (hA1 _ _ hA) b1 (fun v2 W2 rr2 b2 s2 => ?_)
      refine ⟨fun e => absurd (q6.symm.trans e) (by simp), fun i hi => ?_⟩
      rw [q6] at hi
      simp only [List.mem_cons, List.not_mem_nil, or_false] at hi
      subst hi
      refine head_step H0 (by simpa using h0) (hA2 _ _ (hA1 _ _ hA)) b2 (fun v0 W0 rr0 b0 s0 => ?_)
      rw [put_comm n02.symm _ v2 v0, put_comm n01.symm _ v1 v0]
      rw [show (((Array.replicate l.toArray.size false).setIfInBounds 1 true).setIfInBounds 2 true).setIfInBounds 0 true = (((Array.replicate l.toArray.size false).setIfInBounds 1 true).setIfInBounds 0 true).setIfInBounds 2 true from Array.setIfInBounds_comm _ _ (by decide)]
      rw [show ((Array.replicate l.toArray.size false).setIfInBounds 1 true).setIfInBounds 0 true = ((Array.replicate l.toArray.size false).setIfInBounds 0 true).setIfInBounds 1 true from Array.setIfInBounds_comm _ _ (by decide)]
      exact h v0 v1 v2 _ rr0 (M1 _ _ _ (M1 _ _ _ rr1 s2) s0) (M2 _ _ _ rr2 s0) b0
  · refine head_step H2 (by simpa using h2) hA hb0 (fun v2 W2 rr2 b2 s2 => ?_)
    refine ⟨fun e => absurd (q2.symm.trans e) (by simp), fun i hi => ?_⟩
    rw [q2] at hi
    simp only [List.mem_cons, List.not_mem_nil, or_false] at hi
    rcases hi with rfl | rfl
    · refine head_step H0 (by simpa using h0) (hA2 _ _ hA) b2 (fun v0 W0 rr0 b0 s0 => ?_)
      refine ⟨fun e => absurd (q7.symm.trans e) (by simp), fun i hi => ?_⟩
      rw [q7] at hi
      simp only [List.mem_cons, List.not_mem_nil, or_false] at hi
      subst hi
      refine head_step H1 (by simpa using h1) (hA0 _ _ (hA2 _ _ hA)) b0 (fun v1 W1 rr1 b1 s1 => ?_)
      rw [put_comm n02.symm _ v2 v0, put_comm n12.symm _ v2 v1]
      rw [show ((Array.replicate l.toArray.size false).setIfInBounds 2 true).setIfInBounds 0 true = ((Array.replicate l.toArray.size false).setIfInBounds 0 true).setIfInBounds 2 true from Array.setIfInBounds_comm _ _ (by decide)]
      rw [show (((Array.replicate l.toArray.size false).setIfInBounds 0 true).setIfInBounds 2 true).setIfInBounds 1 true = (((Array.replicate l.toArray.size false).setIfInBounds 0 true).setIfInBounds 1 true).setIfInBounds 2 true from Array.setIfInBounds_comm _ _ (by decide)]
      exact h v0 v1 v2 _ (M0 _ _ _ rr0 s1) rr1 (M2 _ _ _ (M2 _ _ _ rr2 s0) s1) b1
    · refine head_step H1 (by simpa using h1) (hA2 _ _ hA) b2 (fun v1 W1 rr1 b1 s1 => ?_)
      refine ⟨fun e => absurd (q8.symm.trans e) (by simp), fun i hi => ?_⟩
      rw [q8] at hi
      simp only [List.mem_cons, List.not_mem_nil, or_false] at hi
      subst hi
      refine head_step H0 (by simpa using h0) (hA1 _ _ (hA2 _ _ hA)) b1 (fun v0 W0 rr0 b0 s0 => ?_)
      rw [put_comm n12.symm _ v2 v1, put_comm n02.symm _ v2 v0, put_comm n01.symm _ v1 v0]
      rw [show ((Array.replicate l.toArray.size false).setIfInBounds 2 true).setIfInBounds 1 true = ((Array.replicate l.toArray.size false).setIfInBounds 1 true).setIfInBounds 2 true from Array.setIfInBounds_comm _ _ (by decide)]
      rw [show (((Array.replicate l.toArray.size false).setIfInBounds 1 true).setIfInBounds 2 true).setIfInBounds 0 true = (((Array.replicate l.toArray.size false).setIfInBounds 1 true).setIfInBounds 0 true).setIfInBounds 2 true from Array.setIfInBounds_comm _ _ (by decide)]
      rw [show ((Array.replicate l.toArray.size false).setIfInBounds 1 true).setIfInBounds 0 true = ((Array.replicate l.toArray.size false).setIfInBounds 0 true).setIfInBounds 1 true from Array.setIfInBounds_comm _ _ (by decide)]
      exact h v0 v1 v2 _ rr0 (M1 _ _ _ rr1 s0) (M2 _ _ _ (M2 _ _ _ rr2 s1) s0) b0
end
/-- the one call that waits for all that is listed -/
theorem any_call {P : Program} {Q : Exit → Act → World → Prop} {ops : Array Oper} {k f : Nat} {listed : Array Bool} {a : Act} {w : World} {o : Oper} {d : Tmp} {fn : FuncId} {args : Array Value} (hr : Region.ready .any ops listed = [k]) (hk : ops[k]? = some o) (hg : o.guard = none) (hd : o.dst = some d)
    (hrun : (execOp a.eval o).run P w = .ok (.enter fn args) w) (hc : Calls P fn args w fun e w' => ∃ v, e = .returned v ∧ wpAny P .any ops Q f (listed.setIfInBounds k true) (a.put (some d) v) w') : wpAny P .any ops Q (f + 1) listed a w := by
  refine ⟨fun e => absurd (hr.symm.trans e) (by simp), fun i hi => ?_⟩
  rw [hr] at hi
  simp only [List.mem_cons, List.not_mem_nil, or_false] at hi
  subst hi
  unfold wpOp
  rw [hk]
  simp only
  rw [if_pos (by simp [Region.wanted, hg])]
  refine .inl ?_
  unfold Oper.wp
  rw [hrun]
  simp only [Oper.upon, hd]
  exact hc.mono fun e w' ⟨v, he, h⟩ => by subst he; exact h
/-- one value that waits for all that is listed -/
theorem any_value {P : Program} {Q : Exit → Act → World → Prop} {ops : Array Oper} {k f : Nat} {listed : Array Bool} {a : Act} {w : World} {o : Oper} {v : Value} (hr : Region.ready .any ops listed = [k]) (hk : ops[k]? = some o) (hg : o.guard = none)
    (hrun : (execOp a.eval o).run P w = .ok (.value v) w) (hc : wpAny P .any ops Q f (listed.setIfInBounds k true) (a.put o.dst v) w) : wpAny P .any ops Q (f + 1) listed a w := by
  refine ⟨fun e => absurd (hr.symm.trans e) (by simp), fun i hi => ?_⟩
  rw [hr] at hi
  simp only [List.mem_cons, List.not_mem_nil, or_false] at hi
  subst hi
  unfold wpOp
  rw [hk]
  simp only
  rw [if_pos (by simp [Region.wanted, hg])]
  refine .inl ?_
  unfold Oper.wp
  rw [hrun]
  exact hc
def invB (ops : Array Oper) (n : Nat) (listed : Array Bool) : Bool :=
  listed.size == ops.size && (List.range ops.size).all (fun j => match ops[j]? with
    | some oj => !listed.getD j false || oj.after.toList.all (fun e => !Region.binds .any e || listed.getD e.on false)
    | none => true) && (List.range ops.size).all fun t => decide (t < n) || !listed.getD t true
theorem inv_of {ops : Array Oper} {n : Nat} {listed : Array Bool} (h : invB ops n listed = true) : HeadInv .any ops n listed := by
  simp only [invB, Bool.and_eq_true, beq_iff_eq, List.all_eq_true, List.mem_range] at h
  obtain ⟨⟨h1, h2⟩, h3⟩ := h
  refine ⟨h1, fun j oj hj hl e he hb => ?_, fun t ht ht' => ?_⟩
  · have hjs : j < ops.size := by
      rcases Nat.lt_or_ge j ops.size with h' | h'
      · exact h'
      · rw [Array.getElem?_eq_none h'] at hj; cases hj
    have := h2 j hjs
    rw [hj] at this
    simp only [hl, Bool.not_true, Bool.false_or, List.all_eq_true] at this
    have := this e (by simpa using he)
    simpa [hb] using this
  · have := h3 t ht'
    simpa [show ¬ t < n by omega] using this
def quietB (ops : Array Oper) (k n : Nat) (listed : Array Bool) : Bool :=
  Region.noSelect ops && decide (n < ops.size) && Region.sinkB .any ops n && Region.chainB .any ops n && invB ops n listed && Region.lexHead .any ops (ops.size - n) (n - k) k listed
/-- quiet ones from there on, then the tail in its order -/
theorem any_quiet {P : Program} {Q : Exit → Act → World → Prop} {l : List Oper} {k f : Nat} {listed : Array Bool} {a : Act} {w : World} (n : Nat) (C : World → Prop) (hkn : k ≤ n) (hf : l.length = f + k) (hB : quietB l.toArray k n listed = true) (hC : C w)
    (h : wpQuiet P l.toArray C (fun a' => ∀ w', C w' → wpList P l.toArray Q (l.drop n) a' w') ((l.drop k).take (n - k)) a) : wpAny P .any l.toArray Q f listed a w := by
  simp only [quietB, Bool.and_eq_true, decide_eq_true_eq] at hB
  obtain ⟨⟨⟨⟨⟨hsel, hn⟩, hs⟩, hc⟩, hi⟩, hlex⟩ := hB
  have hn' : n < l.length := by simpa using hn
  have htl : ((l.drop k).take (n - k)).length = n - k := by simp; omega
  have hdl : (l.drop n).length = l.toArray.size - n := by simp
  have H := headQ_lex (md := .any) (g := l.toArray.size - n) hsel hs hc hn ((l.drop k).take (n - k)) k listed a (fun j hj => by
    have hj' : j < n - k := by rw [htl] at hj; exact hj
    rw [List.getElem?_take_of_lt hj', List.getElem?_drop]
    simp) (by rw [htl]; omega) (inv_of hi) (by rw [htl]; exact hlex) h
  have := any_of_headQ (Q' := Q) (g := l.toArray.size - n) (fun listed a' w' hw' hL => by
    have := wpAny_of_seq (md := .any) (Q' := Q) (l.drop n) n listed a' w' (fun j => by simp [List.getElem?_drop]) (by rw [hdl]; exact hL.1) (hL.2 w' hw')
    rwa [hdl] at this) _ _ _ w hC H
  rw [htl, show n - k + (l.toArray.size - n) = f by simp; omega] at this
  exact this
/-- one that makes noughts of a size -/
def MadeR (w0 : World) (n : Nat) (v : Value) (W : World) : Prop := ∃ g, v = .slice (some ⟨g, 0, none⟩) n n ∧ IsB W (some ⟨g, 0, none⟩) n n (zeros n) ∧ w0.heap.size ≤ g
theorem MadeR.mono (w0 : World) (n : Nat) : Mono (MadeR w0 n) := fun v W W' ⟨g, h1, h2, h3⟩ hb => ⟨g, h1, h2.ab hb, h3⟩
theorem head_make {w0 : World} {A : Act → Prop} {o : Oper} {d : Tmp} (n : Nat) (hn : n ≤ 281474976710656) (hg : o.guard = none) (hd : o.dst = some d) (ho : o.op = .makeSlice 22 (.const (.int .i64 (n : Int))) (.const (.int .i64 (n : Int)))) : HeadOp Tryz.prog w0 A o d (MadeR w0 n) := by
  refine ⟨hg, hd, fun a W _ hb => ⟨_, W.alloc (.cells (bts (zeros n)) 5), ?_, ⟨W.heap.size, rfl, isB_whole (Bk.newAt _ (zeros n) rfl) (byt_zeros n) (zeros_len n) (by omega), hb.size⟩, hb.alloc hb.size _, (Below.refl _ _).alloc (Nat.le_refl _) _⟩⟩
  have := make_u8 n n (Nat.le_refl _) hn W
  unfold execOp
  simp only [ho, Act.eval, this, Sem.run_bind, Result.andThen_ok, Sem.run_pure]
/-- one that hands back what is known -/
def IsR (u : Value) (v : Value) (_ : World) : Prop := v = u
theorem IsR.mono (u : Value) : Mono (IsR u) := fun v W W' h _ => h
theorem head_value {P : Program} {w0 : World} {A : Act → Prop} {o : Oper} {d : Tmp} (u : Value) (hg : o.guard = none) (hd : o.dst = some d) (h : ∀ a W, A a → Below w0.heap.size w0 W → (execOp a.eval o).run P W = .ok (.value u) W) : HeadOp P w0 A o d (IsR u) :=
  ⟨hg, hd, fun a W ha hb => ⟨u, W, h a W ha hb, rfl, hb, Below.refl _ _⟩⟩
end Go.Proofs.YtakgebbeknfplaaGreat

namespace Go.Proofs.YtakgebbeknfplaaGreat
open Go.RowKit
set_option linter.unusedVariables false

/-- alike but for some slots -/
def Agree (D : List Tmp) (a b : Act) : Prop := b.defers = a.defers ∧ b.tmps.size = a.tmps.size ∧ ∀ t : Nat, t ∉ D → b.tmps[t]? = a.tmps[t]?
theorem Agree.refl (D : List Tmp) (a : Act) : Agree D a a := ⟨rfl, rfl, fun _ _ => rfl⟩
theorem Agree.put {D : List Tmp} {a b : Act} (h : Agree D a b) {d : Tmp} (hd : d ∈ D) (v : Value) : Agree D a (b.put (some d) v) := by
  refine ⟨h.1, by simpa [Act.put] using h.2.1, fun t ht => ?_⟩
  have hne : d ≠ t := fun e => ht (by rw [← e]; exact hd)
  simp only [Act.put]
  rw [Array.getElem?_setIfInBounds_ne hne]
  exact h.2.2 t ht
theorem Agree.eval {D : List Tmp} {a b : Act} (h : Agree D a b) {t : Nat} (ht : t ∉ D) : b.eval (.tmp t) = a.eval (.tmp t) := by
  simp only [Act.eval, Array.getD_eq_getD_getElem?]
  rw [h.2.2 t ht]
theorem Agree.rebuild {a : Act} : ∀ (D : List Tmp) (b : Act), Agree D b a → a = D.foldl (fun x d => x.put (some d) (a.eval (.tmp d))) b
  | [], b, h => by
    cases a; cases b
    simp only [List.foldl_nil, Act.mk.injEq]
    refine ⟨?_, h.1⟩
    apply Array.ext_getElem?
    intro t
    exact h.2.2 t (by simp)
  | d :: D, b, h => by
    rw [List.foldl_cons]
    refine Agree.rebuild D _ ⟨h.1, by simpa [Act.put] using h.2.1, fun t ht => ?_⟩
    simp only [Act.put]
    by_cases e : d = t
    · subst e
      by_cases hs : d < b.tmps.size
      · rw [Array.getElem?_setIfInBounds_self_of_lt hs]
        have : d < a.tmps.size := by rw [h.2.1]; exact hs
        simp [Act.eval, this]
      · have hs' : b.tmps.size ≤ d := Nat.le_of_not_lt hs
        rw [Array.getElem?_eq_none (by rw [h.2.1]; exact hs'), Array.getElem?_eq_none (by simpa using hs')]
    · rw [Array.getElem?_setIfInBounds_ne e]
      exact h.2.2 t (by simp [ht, Ne.symm e])
section
variable {P : Program} {Q : Exit → Act → World → Prop}
/-- the block that a value points to -/
def blk : Value → Option Nat
  | .pointer (some a) => some a.block
  | .slice (some a) _ _ => some a.block
  | _ => none
/-- new memory -/
def Fresh (fr : Bool) (v : Value) (W W' : World) : Prop := fr = true → ∃ g, blk v = some g ∧ W.heap.size ≤ g ∧ g < W'.heap.size
theorem fresh_no (v : Value) (W W' : World) : Fresh false v W W' := fun h => by cases h
/-- what an operation of the head does -/
def Yields (P : Program) (o : Oper) (a : Act) (W : World) (fr : Bool) (R : Value → World → Prop) : Prop :=
  (∃ v W', (execOp a.eval o).run P W = .ok (.value v) W' ∧ R v W' ∧ Below W.heap.size W W' ∧ Fresh fr v W W') ∨
  (∃ f args, (execOp a.eval o).run P W = .ok (.enter f args) W ∧ Calls P f args W fun e W' => ∃ v, e = .returned v ∧ R v W' ∧ Below W.heap.size W W' ∧ Fresh fr v W W')
structure Head where
  dst : Tmp
  R : Value → World → Prop
  deps : List Nat
  fresh : Bool
/-- all that is so behind those that are listed -/
def FreeInv (hs : List Head) (a0 : Act) (w0 : World) (listed : Array Bool) (a : Act) (W : World) : Prop :=
  Agree (hs.map (·.dst)) a0 a ∧ Below w0.heap.size w0 W ∧ (∀ (i : Nat) (h : Head), hs[i]? = some h → listed.getD i false = true → h.R (a.eval (.tmp h.dst)) W) ∧
    (∀ (i : Nat) (h : Head), hs[i]? = some h → listed.getD i false = true → h.fresh = true → ∃ g, blk (a.eval (.tmp h.dst)) = some g ∧ w0.heap.size ≤ g ∧ g < W.heap.size) ∧
    (∀ (i j : Nat) (h k : Head), hs[i]? = some h → hs[j]? = some k → i ≠ j → listed.getD i false = true → listed.getD j false = true → h.fresh = true → k.fresh = true → blk (a.eval (.tmp h.dst)) ≠ blk (a.eval (.tmp k.dst)))
def freeB (ops : Array Oper) (n : Nat) (deps : Array (List Nat)) (g : Nat) : Nat → Array Bool → Bool
  | 0, listed => Region.seqB .any ops g n listed && (List.range n).all fun i => listed.getD i false
  | f + 1, listed => !(Region.ready .any ops listed).isEmpty && (Region.ready .any ops listed).all fun i =>
      decide (i < n) && decide (i < listed.size) && (deps.getD i []).all (fun j => decide (j < n) && listed.getD j false) && freeB ops n deps g f (listed.setIfInBounds i true)
theorem lt_of_some {hs : List Head} {i : Nat} {h : Head} (hi : hs[i]? = some h) : i < hs.length := by
  rcases Nat.lt_or_ge i hs.length with h' | h'
  · exact h'
  · rw [List.getElem?_eq_none h'] at hi; cases hi
theorem free_any {l : List Oper} {hs : List Head} {a0 : Act} {w0 : World} {g : Nat} (hg : (l.drop hs.length).length = g)
    (hdst : ∀ (i : Nat) (h : Head) (o : Oper), hs[i]? = some h → l[i]? = some o → o.guard = none ∧ o.dst = some h.dst) (hlen : hs.length ≤ l.length) (hin : ∀ h ∈ hs, h.dst < a0.tmps.size) (hdis : (hs.map (·.dst)).Nodup)
    (hm : ∀ h ∈ hs, Mono h.R)
    (hy : ∀ (i : Nat) (h : Head) (o : Oper), hs[i]? = some h → l[i]? = some o → ∀ a W, Agree (hs.map (·.dst)) a0 a → Below w0.heap.size w0 W → (∀ j ∈ h.deps, ∀ (hj : Head), hs[j]? = some hj → hj.R (a.eval (.tmp hj.dst)) W) → Yields P o a W h.fresh h.R)
    (hk : ∀ a W, Agree (hs.map (·.dst)) a0 a → Below w0.heap.size w0 W → (∀ (i : Nat) (h : Head), hs[i]? = some h → h.R (a.eval (.tmp h.dst)) W) → (∀ (i j : Nat) (h k : Head), hs[i]? = some h → hs[j]? = some k → i ≠ j → h.fresh = true → k.fresh = true → blk (a.eval (.tmp h.dst)) ≠ blk (a.eval (.tmp k.dst))) → wpList P l.toArray Q (l.drop hs.length) a W) :
    ∀ (f : Nat) (listed : Array Bool) (a : Act) (W : World), freeB l.toArray hs.length (hs.map (·.deps)).toArray g f listed = true → FreeInv hs a0 w0 listed a W → wpAny P .any l.toArray Q (f + g) listed a W
  | 0, listed, a, W, hB, hI => by
    simp only [freeB, Bool.and_eq_true, List.all_eq_true, List.mem_range] at hB
    rw [Nat.zero_add]
    have := wpAny_of_seq (md := .any) (Q' := Q) (P := P) (l.drop hs.length) hs.length listed a W (fun j => by simp [List.getElem?_drop]) (by rw [hg]; exact hB.1) (hk a W hI.1 hI.2.1 (fun i h hi => hI.2.2.1 i h hi (hB.2 i (lt_of_some hi))) (fun i j h k hi hj hij => hI.2.2.2.2 i j h k hi hj hij (hB.2 i (lt_of_some hi)) (hB.2 j (lt_of_some hj))))
    rwa [hg] at this
  | f + 1, listed, a, W, hB, hI => by
    simp only [freeB, Bool.and_eq_true, List.all_eq_true, decide_eq_true_eq, Bool.not_eq_true', List.isEmpty_eq_false_iff] at hB
    obtain ⟨hne, hall⟩ := hB
    rw [show f + 1 + g = (f + g) + 1 by omega]
    refine ⟨fun e => absurd e hne, fun i hi => ?_⟩
    obtain ⟨⟨⟨hin2, his⟩, hdep⟩, hrec⟩ := hall i hi
    have hil : i < l.length := by omega
    obtain ⟨h, hh⟩ : ∃ h, hs[i]? = some h := ⟨_, List.getElem?_eq_getElem hin2⟩
    obtain ⟨o, ho⟩ : ∃ o, l[i]? = some o := ⟨_, List.getElem?_eq_getElem hil⟩
    obtain ⟨hgd, hd⟩ := hdst i h o hh ho
    have hmem : h ∈ hs := List.mem_of_getElem? hh
    have hdep2 : ∀ j ∈ h.deps, ∀ (hj : Head), hs[j]? = some hj → hj.R (a.eval (.tmp hj.dst)) W := fun j hj hj' hjj => by
      have hd1 : ((hs.map (·.deps)).toArray.getD i []) = h.deps := by simp [hh]
      have := hdep j (by rw [hd1]; exact hj)
      exact hI.2.2.1 j hj' hjj this.2
    have hself : ∀ v, (a.put (some h.dst) v).eval (.tmp h.dst) = v := fun v => by
      have hs1 : h.dst < a.tmps.size := by rw [hI.1.2.1]; exact hin h hmem
      simp [Act.put, Act.eval, hs1]
    have hoth : ∀ v (j : Nat) (hj : Head), hs[j]? = some hj → j ≠ i → (a.put (some h.dst) v).eval (.tmp hj.dst) = a.eval (.tmp hj.dst) := fun v j hj hjj hij => by
      refine eval_put_ne (fun e => hij ?_) _ _
      have hjl := lt_of_some hjj
      have e1 : (hs.map (·.dst))[j]'(by simpa using hjl) = (hs.map (·.dst))[i]'(by simpa using hin2) := by
        rw [List.getElem?_eq_getElem hjl] at hjj
        rw [List.getElem?_eq_getElem hin2] at hh
        injection hjj with hjj
        injection hh with hh
        simp only [List.getElem_map, hjj, hh]
        exact e.symm
      exact (List.getElem_inj hdis).1 e1
    have hlis : ∀ (j : Nat), j ≠ i → (listed.setIfInBounds i true).getD j false = true → listed.getD j false = true := fun j hij h' => by
      rw [Array.getD_eq_getD_getElem?, Array.getElem?_setIfInBounds_ne (Ne.symm hij)] at h'
      rw [Array.getD_eq_getD_getElem?]
      exact h'
    have key : ∀ v W', h.R v W' → Below W.heap.size W W' → Fresh h.fresh v W W' → wpAny P .any l.toArray Q (f + g) (listed.setIfInBounds i true) (a.put (some h.dst) v) W' := fun v W' hR hb hfr => by
      refine free_any hg hdst hlen hin hdis hm hy hk f _ _ _ hrec ⟨hI.1.put (List.mem_map.2 ⟨h, hmem, rfl⟩) v, below_tr hI.2.1 hb hI.2.1.size, fun j hj hjj hlj => ?_, fun j hj hjj hlj hf => ?_, fun j k hj hk' hjj hkk hjk hlj hlk hfj hfk => ?_⟩
      · by_cases hij : j = i
        · subst hij
          rw [hh] at hjj
          injection hjj with hjj
          subst hjj
          rw [hself]
          exact hR
        · rw [hoth v j hj hjj hij]
          exact hm hj (List.mem_of_getElem? hjj) _ _ _ (hI.2.2.1 j hj hjj (hlis j hij hlj)) hb
      · by_cases hij : j = i
        · subst hij
          rw [hh] at hjj
          injection hjj with hjj
          subst hjj
          rw [hself]
          obtain ⟨g', e1, e2, e3⟩ := hfr hf
          exact ⟨g', e1, Nat.le_trans hI.2.1.size e2, e3⟩
        · rw [hoth v j hj hjj hij]
          obtain ⟨g', e1, e2, e3⟩ := hI.2.2.2.1 j hj hjj (hlis j hij hlj) hf
          exact ⟨g', e1, e2, Nat.lt_of_lt_of_le e3 hb.size⟩
      · by_cases hij : j = i
        · subst hij
          have hki : k ≠ j := Ne.symm hjk
          rw [hh] at hjj
          injection hjj with hjj
          subst hjj
          rw [hself, hoth v k hk' hkk hki]
          obtain ⟨g', e1, e2, e3⟩ := hfr hfj
          obtain ⟨g2, f1, f2, f3⟩ := hI.2.2.2.1 k hk' hkk (hlis k hki hlk) hfk
          rw [e1, f1]
          intro e
          injection e with e
          omega
        · by_cases hik : k = i
          · subst hik
            rw [hh] at hkk
            injection hkk with hkk
            subst hkk
            rw [hself, hoth v j hj hjj hij]
            obtain ⟨g', e1, e2, e3⟩ := hfr hfk
            obtain ⟨g2, f1, f2, f3⟩ := hI.2.2.2.1 j hj hjj (hlis j hij hlj) hfj
            rw [e1, f1]
            intro e
            injection e with e
            omega
          · rw [hoth v j hj hjj hij, hoth v k hk' hkk hik]
            exact hI.2.2.2.2 j k hj hk' hjj hkk hjk (hlis j hij hlj) (hlis k hik hlk) hfj hfk
    unfold wpOp
    rw [show l.toArray[i]? = some o by simpa using ho]
    simp only
    rw [if_pos (by simp [Region.wanted, hgd])]
    refine .inl ?_
    unfold Oper.wp
    rcases hy i h o hh ho a W hI.1 hI.2.1 hdep2 with ⟨v, W', hr, hR, hb, hfr⟩ | ⟨fn, args, hr, hc⟩
    · rw [hr]
      simp only [Oper.upon, hd]
      exact key v W' hR hb hfr
    · rw [hr]
      simp only [Oper.upon, hd]
      exact hc.mono fun e W' ⟨v, he, hR, hb, hfr⟩ => by subst he; exact key v W' hR hb hfr
/-- THE LAW -/
theorem wp_free {id : Nat} {a0 : Act} {w0 : World} {l : List Oper} (hs : List Head) (hmx : P.follows .mixedOrders = true) (hlen : hs.length ≤ l.length)
    (hB : freeB l.toArray hs.length (hs.map (·.deps)).toArray (l.length - hs.length) hs.length (Array.replicate l.toArray.size false) = true)
    (hdst : ∀ (i : Nat) (h : Head) (o : Oper), hs[i]? = some h → l[i]? = some o → o.guard = none ∧ o.dst = some h.dst) (hin : ∀ h ∈ hs, h.dst < a0.tmps.size) (hdis : (hs.map (·.dst)).Nodup) (hm : ∀ h ∈ hs, Mono h.R)
    (hy : ∀ (i : Nat) (h : Head) (o : Oper), hs[i]? = some h → l[i]? = some o → ∀ a W, Agree (hs.map (·.dst)) a0 a → Below w0.heap.size w0 W → (∀ j ∈ h.deps, ∀ (hj : Head), hs[j]? = some hj → hj.R (a.eval (.tmp hj.dst)) W) → Yields P o a W h.fresh h.R)
    (hk : ∀ (vs : Tmp → Value) W, (∀ (i : Nat) (h : Head), hs[i]? = some h → h.R (vs h.dst) W) → (∀ (i j : Nat) (h k : Head), hs[i]? = some h → hs[j]? = some k → i ≠ j → h.fresh = true → k.fresh = true → blk (vs h.dst) ≠ blk (vs k.dst)) → Below w0.heap.size w0 W → wpList P l.toArray Q (l.drop hs.length) ((hs.map (·.dst)).foldl (fun x d => x.put (some d) (vs d)) a0) W) :
    (Code.region id l.toArray true).wp P Q a0 w0 := by
  refine wp_region_any hmx ?_
  have h1 := free_any (P := P) (Q := Q) (l := l) (hs := hs) (a0 := a0) (w0 := w0) (g := l.length - hs.length) (by simp) hdst hlen hin hdis hm hy
    (fun a W hA hb hR hF => by
      have := hk (fun d => a.eval (.tmp d)) W hR hF hb
      rw [← Agree.rebuild _ _ hA] at this
      exact this) hs.length (Array.replicate l.toArray.size false) a0 { w0 with drawn := w0.drawn + 1 } hB
    ⟨Agree.refl _ _, (Below.refl _ w0).drew, fun i h hi hl => (by rw [getD_replicate_false] at hl; cases hl), fun i h hi hl => (by rw [getD_replicate_false] at hl; cases hl), fun i j h k hi hj hij hl => (by rw [getD_replicate_false] at hl; cases hl)⟩
  have hsz : l.toArray.size = hs.length + (l.length - hs.length) := by rw [List.size_toArray]; omega
  have e : wpAny P .any l.toArray Q l.toArray.size = wpAny P .any l.toArray Q (hs.length + (l.length - hs.length)) := congrArg _ hsz
  rw [e]
  exact h1
/-- one head after the other -/
def AllHeads (p : Head → Oper → Prop) : List Head → List Oper → Prop
  | [], _ => True
  | h :: hs, o :: ol => p h o ∧ AllHeads p hs ol
  | _ :: _, [] => False
theorem AllHeads.at {p : Head → Oper → Prop} : ∀ {hs : List Head} {l : List Oper}, AllHeads p hs l → ∀ (i : Nat) (h : Head) (o : Oper), hs[i]? = some h → l[i]? = some o → p h o
  | [], _, _, i, h, o, hh, _ => by simp at hh
  | h0 :: hs, o0 :: l, ha, 0, h, o, hh, ho => by
    simp only [List.getElem?_cons_zero, Option.some.injEq] at hh ho
    rw [← hh, ← ho]
    exact ha.1
  | h0 :: hs, o0 :: l, ha, i + 1, h, o, hh, ho => AllHeads.at ha.2 i h o (by simpa using hh) (by simpa using ho)
  | _ :: _, [], ha, _, _, _, _, _ => ha.elim
/-- what is asked of one -/
def Head.ok (P : Program) (hs : List Head) (a0 : Act) (w0 : World) (h : Head) (o : Oper) : Prop :=
  o.guard = none ∧ o.dst = some h.dst ∧ Mono h.R ∧ (∀ a W, Agree (hs.map (·.dst)) a0 a → Below w0.heap.size w0 W → (∀ j ∈ h.deps, ∀ (hj : Head), hs[j]? = some hj → hj.R (a.eval (.tmp hj.dst)) W) → Yields P o a W h.fresh h.R)
theorem wp_free2 {id : Nat} {a0 : Act} {w0 : World} {l : List Oper} (hs : List Head) (hmx : P.follows .mixedOrders = true)
    (hB : freeB l.toArray hs.length (hs.map (·.deps)).toArray (l.length - hs.length) hs.length (Array.replicate l.toArray.size false) = true)
    (hlen : decide (hs.length ≤ l.length) = true) (hin : (hs.map (·.dst)).all (fun d => decide (d < a0.tmps.size)) = true) (hdis : decide ((hs.map (·.dst)).Nodup) = true)
    (hok : AllHeads (Head.ok P hs a0 w0) hs l)
    (hk : ∀ (vs : Tmp → Value) W, (∀ (i : Nat) (h : Head), hs[i]? = some h → h.R (vs h.dst) W) → (∀ (i j : Nat) (h k : Head), hs[i]? = some h → hs[j]? = some k → i ≠ j → h.fresh = true → k.fresh = true → blk (vs h.dst) ≠ blk (vs k.dst)) → Below w0.heap.size w0 W → wpList P l.toArray Q (l.drop hs.length) ((hs.map (·.dst)).foldl (fun x d => x.put (some d) (vs d)) a0) W) :
    (Code.region id l.toArray true).wp P Q a0 w0 := by
  have hlen' := of_decide_eq_true hlen
  have hmem : ∀ h ∈ hs, ∃ (i : Nat) (o : Oper), hs[i]? = some h ∧ l[i]? = some o := fun h hh => by
    obtain ⟨i, hi, rfl⟩ := List.getElem_of_mem hh
    exact ⟨i, _, List.getElem?_eq_getElem hi, List.getElem?_eq_getElem (by omega)⟩
  refine wp_free hs hmx hlen' hB (fun i h o hi ho => ⟨(hok.at i h o hi ho).1, (hok.at i h o hi ho).2.1⟩) (fun h hh => ?_) (of_decide_eq_true hdis) (fun h hh => ?_) (fun i h o hi ho => (hok.at i h o hi ho).2.2.2) hk
  · have := List.all_eq_true.1 hin h.dst (List.mem_map.2 ⟨h, hh, rfl⟩)
    exact of_decide_eq_true this
  · obtain ⟨i, o, hi, ho⟩ := hmem h hh
    exact (hok.at i h o hi ho).2.2.1
theorem yields_value {o : Oper} {a : Act} {W : World} {R : Value → World → Prop} (v : Value) (h : (execOp a.eval o).run P W = .ok (.value v) W) (hR : R v W) : Yields P o a W false R := .inl ⟨v, W, h, hR, Below.refl _ _, fresh_no _ _ _⟩
theorem yields_call {o : Oper} {a : Act} {W : World} {R : Value → World → Prop} (f : FuncId) (args : Array Value) (h : (execOp a.eval o).run P W = .ok (.enter f args) W) (hc : Calls P f args W fun e W' => ∃ v, e = .returned v ∧ R v W' ∧ Below W.heap.size W W') : Yields P o a W false R :=
  .inr ⟨f, args, h, hc.mono fun e W' ⟨v, h1, h2, h3⟩ => ⟨v, h1, h2, h3, fresh_no _ _ _⟩⟩
end
end Go.Proofs.YtakgebbeknfplaaGreat

namespace Go.Proofs.YtakgebbeknfplaaGreat
open Go.RowKit
set_option linter.unusedVariables false

section
variable {P : Program} {Q : Exit → Act → World → Prop}
/-- how many of the first n are not listed -/
def unl (listed : Array Bool) : Nat → Nat
  | 0 => 0
  | n + 1 => unl listed n + (if listed.getD n false = true then 0 else 1)
theorem unl_same (listed : Array Bool) (i : Nat) : ∀ n, n ≤ i → unl (listed.setIfInBounds i true) n = unl listed n
  | 0, _ => rfl
  | n + 1, h => by
    rw [unl, unl, unl_same listed i n (by omega), getD_set_ne false (by omega)]
theorem unl_set {listed : Array Bool} {i : Nat} (hs : i < listed.size) (hi : listed.getD i false = false) : ∀ n, i < n → unl (listed.setIfInBounds i true) n + 1 = unl listed n
  | 0, h => by omega
  | n + 1, h => by
    rw [unl, unl]
    by_cases e : i = n
    · subst e
      rw [unl_same listed i i (Nat.le_refl _), hi]
      have : (listed.setIfInBounds i true).getD i false = true := by simp [hs]
      rw [this]
      simp
    · rw [getD_set_ne false e, ← unl_set hs hi n (by omega)]
      omega
theorem unl_zero {listed : Array Bool} : ∀ n, unl listed n = 0 → ∀ i, i < n → listed.getD i false = true
  | 0, _, i, h => by omega
  | n + 1, h0, i, h => by
    rw [unl] at h0
    by_cases e : i = n
    · subst e
      by_cases hl : listed.getD i false = true
      · exact hl
      · rw [if_neg hl] at h0; omega
    · exact unl_zero n (by omega) i (by omega)
theorem unl_pos {listed : Array Bool} : ∀ n, 0 < unl listed n → ∃ i, i < n ∧ listed.getD i false = false ∧ ∀ j, j < i → listed.getD j false = true
  | 0, h => by simp [unl] at h
  | n + 1, h => by
    by_cases h0 : 0 < unl listed n
    · obtain ⟨i, hi, h1, h2⟩ := unl_pos n h0
      exact ⟨i, by omega, h1, h2⟩
    · rw [unl] at h
      by_cases hl : listed.getD n false = true
      · rw [if_pos hl] at h; omega
      · exact ⟨n, by omega, by simpa using hl, fun j hj => unl_zero n (by omega) j hj⟩
/-- the first n listed -/
def allL (m n : Nat) : Array Bool := ((List.range m).map fun i => decide (i < n)).toArray
def wideB (ops : Array Oper) (n : Nat) (deps : Array (List Nat)) : Bool :=
  decide (n < ops.size) && Region.sinkB .any ops n && Region.chainB .any ops n && Region.seqB .any ops (ops.size - n) n (allL ops.size n) &&
    (List.range n).all (fun j => (deps.getD j []).all fun d => decide (d < n) && Region.waitsFor .any ops j d) &&
    (List.range n).all (fun j => match ops[j]? with
      | some o => o.after.toList.all fun e => !Region.binds .any e || decide (e.on < j)
      | none => false)
structure Wide (ops : Array Oper) (n : Nat) (deps : Array (List Nat)) : Prop where
  lt : n < ops.size
  sink : Region.sinkB .any ops n = true
  chain : Region.chainB .any ops n = true
  seq : Region.seqB .any ops (ops.size - n) n (allL ops.size n) = true
  dep : ∀ j, j < n → ∀ d ∈ deps.getD j [], d < n ∧ Region.waitsFor .any ops j d = true
  low : ∀ j, j < n → ∃ o, ops[j]? = some o ∧ ∀ e ∈ o.after, Region.binds .any e = true → e.on < j
theorem wide_of {ops : Array Oper} {n : Nat} {deps : Array (List Nat)} (h : wideB ops n deps = true) : Wide ops n deps := by
  simp only [wideB, Bool.and_eq_true, decide_eq_true_eq, List.all_eq_true, List.mem_range] at h
  obtain ⟨⟨⟨⟨⟨h1, h2⟩, h3⟩, h4⟩, h5⟩, h6⟩ := h
  refine ⟨h1, h2, h3, h4, fun j hj d hd => h5 j hj d hd, fun j hj => ?_⟩
  have := h6 j hj
  cases ho : ops[j]? with
  | none => rw [ho] at this; cases this
  | some o =>
    rw [ho] at this
    refine ⟨o, rfl, fun e he hb => ?_⟩
    simp only [List.all_eq_true] at this
    have := this e (by simpa using he)
    simpa [hb] using this
theorem all_listed {ops : Array Oper} {n : Nat} {listed : Array Bool} (inv : HeadInv .any ops n listed) (hn : n < ops.size) (h : ∀ i, i < n → listed.getD i false = true) : listed = allL ops.size n := by
  apply Array.ext
  · simp [allL, inv.size]
  · intro i h1 h2
    have h3 : i < ops.size := by rw [← inv.size]; exact h1
    simp only [allL, List.getElem_toArray, List.getElem_map, List.getElem_range]
    by_cases hi : i < n
    · rw [decide_eq_true hi]
      have := h i hi
      simpa [h1] using this
    · rw [decide_eq_false hi]
      have := inv.tail i (by omega) h3
      simpa [h1] using this
theorem wide_any {l : List Oper} {hs : List Head} {a0 : Act} {w0 : World} {g : Nat} (hW : wideB l.toArray hs.length (hs.map (·.deps)).toArray = true) (hg : (l.drop hs.length).length = g)
    (hdst : ∀ (i : Nat) (h : Head) (o : Oper), hs[i]? = some h → l[i]? = some o → o.guard = none ∧ o.dst = some h.dst) (hlen : hs.length ≤ l.length) (hin : ∀ h ∈ hs, h.dst < a0.tmps.size) (hdis : (hs.map (·.dst)).Nodup)
    (hm : ∀ h ∈ hs, Mono h.R)
    (hy : ∀ (i : Nat) (h : Head) (o : Oper), hs[i]? = some h → l[i]? = some o → ∀ a W, Agree (hs.map (·.dst)) a0 a → Below w0.heap.size w0 W → (∀ j ∈ h.deps, ∀ (hj : Head), hs[j]? = some hj → hj.R (a.eval (.tmp hj.dst)) W) → Yields P o a W h.fresh h.R)
    (hk : ∀ a W, Agree (hs.map (·.dst)) a0 a → Below w0.heap.size w0 W → (∀ (i : Nat) (h : Head), hs[i]? = some h → h.R (a.eval (.tmp h.dst)) W) → (∀ (i j : Nat) (h k : Head), hs[i]? = some h → hs[j]? = some k → i ≠ j → h.fresh = true → k.fresh = true → blk (a.eval (.tmp h.dst)) ≠ blk (a.eval (.tmp k.dst))) → wpList P l.toArray Q (l.drop hs.length) a W) :
    ∀ (f : Nat) (listed : Array Bool) (a : Act) (W : World), HeadInv .any l.toArray hs.length listed → unl listed hs.length = f → FreeInv hs a0 w0 listed a W → wpAny P .any l.toArray Q (f + g) listed a W
  | 0, listed, a, W, inv, hu, hI => by
    have hWd := wide_of hW
    have hall := unl_zero _ hu
    rw [Nat.zero_add]
    have hsq := hWd.seq
    rw [← all_listed inv hWd.lt hall, show l.toArray.size - hs.length = g by rw [← hg]; simp] at hsq
    have := wpAny_of_seq (md := .any) (Q' := Q) (P := P) (l.drop hs.length) hs.length listed a W (fun j => by simp [List.getElem?_drop]) (by rw [hg]; exact hsq) (hk a W hI.1 hI.2.1 (fun i h hi => hI.2.2.1 i h hi (hall i (lt_of_some hi))) (fun i j h k hi hj hij => hI.2.2.2.2 i j h k hi hj hij (hall i (lt_of_some hi)) (hall j (lt_of_some hj))))
    rwa [hg] at this
  | f + 1, listed, a, W, inv, hu, hI => by
    have hWd := wide_of hW
    obtain ⟨i0, hi0, hun0, hlow0⟩ := unl_pos (listed := listed) hs.length (by omega)
    have hsz := inv.size
    have hun0' : listed.getD i0 true = false := getD_in (by have := hWd.lt; omega) hun0
    rw [show f + 1 + g = (f + g) + 1 by omega]
    have hne : i0 ∈ Region.ready .any l.toArray listed := by
      obtain ⟨o, ho, hb⟩ := hWd.low i0 hi0
      exact mem_ready.2 ⟨hun0', o, ho, fun e he hbd => hlow0 _ (hb e he hbd)⟩
    refine ⟨fun e => (by rw [e] at hne; cases hne), fun i hi => ?_⟩
    have hin2 : i < hs.length := by
      rcases Nat.lt_or_ge i hs.length with h | h
      · exact h
      · exact absurd hi (tail_waits hWd.sink hWd.chain hWd.lt inv _ i0 rfl hi0 hun0' i h)
    have hdep : ∀ d ∈ ((hs.map (·.deps)).toArray.getD i []), listed.getD d false = true := fun d hd => by
      obtain ⟨_, oi, hoi, hall⟩ := mem_ready.1 hi
      obtain ⟨oj, hoj, e, he, hb, hon⟩ := Region.waitsFor_spec (hWd.dep i hin2 d hd).2
      have : oj = oi := Option.some.inj (hoj.symm.trans hoi)
      subst this
      rw [← hon]
      exact hall e he hb
    have hrec : unl (listed.setIfInBounds i true) hs.length = f := by
      have := unl_set (listed := listed) (i := i) (by have := hWd.lt; omega) (getD_both (mem_ready.1 hi).1) hs.length hin2
      omega
    have hil : i < l.length := by omega
    obtain ⟨h, hh⟩ : ∃ h, hs[i]? = some h := ⟨_, List.getElem?_eq_getElem hin2⟩
    obtain ⟨o, ho⟩ : ∃ o, l[i]? = some o := ⟨_, List.getElem?_eq_getElem hil⟩
    obtain ⟨hgd, hd⟩ := hdst i h o hh ho
    have hmem : h ∈ hs := List.mem_of_getElem? hh
    have hdep2 : ∀ j ∈ h.deps, ∀ (hj : Head), hs[j]? = some hj → hj.R (a.eval (.tmp hj.dst)) W := fun j hj hj' hjj => by
      have hd1 : ((hs.map (·.deps)).toArray.getD i []) = h.deps := by simp [hh]
      exact hI.2.2.1 j hj' hjj (hdep j (by rw [hd1]; exact hj))
    have hself : ∀ v, (a.put (some h.dst) v).eval (.tmp h.dst) = v := fun v => by
      have hs1 : h.dst < a.tmps.size := by rw [hI.1.2.1]; exact hin h hmem
      simp [Act.put, Act.eval, hs1]
    have hoth : ∀ v (j : Nat) (hj : Head), hs[j]? = some hj → j ≠ i → (a.put (some h.dst) v).eval (.tmp hj.dst) = a.eval (.tmp hj.dst) := fun v j hj hjj hij => by
      refine eval_put_ne (fun e => hij ?_) _ _
      have hjl := lt_of_some hjj
      have e1 : (hs.map (·.dst))[j]'(by simpa using hjl) = (hs.map (·.dst))[i]'(by simpa using hin2) := by
        rw [List.getElem?_eq_getElem hjl] at hjj
        rw [List.getElem?_eq_getElem hin2] at hh
        injection hjj with hjj
        injection hh with hh
        simp only [List.getElem_map, hjj, hh]
        exact e.symm
      exact (List.getElem_inj hdis).1 e1
    have hlis : ∀ (j : Nat), j ≠ i → (listed.setIfInBounds i true).getD j false = true → listed.getD j false = true := fun j hij h' => by
      rw [Array.getD_eq_getD_getElem?, Array.getElem?_setIfInBounds_ne (Ne.symm hij)] at h'
      rw [Array.getD_eq_getD_getElem?]
      exact h'
    have key : ∀ v W', h.R v W' → Below W.heap.size W W' → Fresh h.fresh v W W' → wpAny P .any l.toArray Q (f + g) (listed.setIfInBounds i true) (a.put (some h.dst) v) W' := fun v W' hR hb hfr => by
      refine wide_any hW hg hdst hlen hin hdis hm hy hk f _ _ _ (inv.set hi hin2) hrec ⟨hI.1.put (List.mem_map.2 ⟨h, hmem, rfl⟩) v, below_tr hI.2.1 hb hI.2.1.size, fun j hj hjj hlj => ?_, fun j hj hjj hlj hf => ?_, fun j k hj hk' hjj hkk hjk hlj hlk hfj hfk => ?_⟩
      · by_cases hij : j = i
        · subst hij
          rw [hh] at hjj
          injection hjj with hjj
          subst hjj
          rw [hself]
          exact hR
        · rw [hoth v j hj hjj hij]
          exact hm hj (List.mem_of_getElem? hjj) _ _ _ (hI.2.2.1 j hj hjj (hlis j hij hlj)) hb
      · by_cases hij : j = i
        · subst hij
          rw [hh] at hjj
          injection hjj with hjj
          subst hjj
          rw [hself]
          obtain ⟨g', e1, e2, e3⟩ := hfr hf
          exact ⟨g', e1, Nat.le_trans hI.2.1.size e2, e3⟩
        · rw [hoth v j hj hjj hij]
          obtain ⟨g', e1, e2, e3⟩ := hI.2.2.2.1 j hj hjj (hlis j hij hlj) hf
          exact ⟨g', e1, e2, Nat.lt_of_lt_of_le e3 hb.size⟩
      · by_cases hij : j = i
        · subst hij
          have hki : k ≠ j := Ne.symm hjk
          rw [hh] at hjj
          injection hjj with hjj
          subst hjj
          rw [hself, hoth v k hk' hkk hki]
          obtain ⟨g', e1, e2, e3⟩ := hfr hfj
          obtain ⟨g2, f1, f2, f3⟩ := hI.2.2.2.1 k hk' hkk (hlis k hki hlk) hfk
          rw [e1, f1]
          intro e
          injection e with e
          omega
        · by_cases hik : k = i
          · subst hik
            rw [hh] at hkk
            injection hkk with hkk
            subst hkk
            rw [hself, hoth v j hj hjj hij]
            obtain ⟨g', e1, e2, e3⟩ := hfr hfk
            obtain ⟨g2, f1, f2, f3⟩ := hI.2.2.2.1 j hj hjj (hlis j hij hlj) hfj
            rw [e1, f1]
            intro e
            injection e with e
            omega
          · rw [hoth v j hj hjj hij, hoth v k hk' hkk hik]
            exact hI.2.2.2.2 j k hj hk' hjj hkk hjk (hlis j hij hlj) (hlis k hik hlk) hfj hfk
    unfold wpOp
    rw [show l.toArray[i]? = some o by simpa using ho]
    simp only
    rw [if_pos (by simp [Region.wanted, hgd])]
    refine .inl ?_
    unfold Oper.wp
    rcases hy i h o hh ho a W hI.1 hI.2.1 hdep2 with ⟨v, W', hr, hR, hb, hfr⟩ | ⟨fn, args, hr, hc⟩
    · rw [hr]
      simp only [Oper.upon, hd]
      exact key v W' hR hb hfr
    · rw [hr]
      simp only [Oper.upon, hd]
      exact hc.mono fun e W' ⟨v, he, hR, hb, hfr⟩ => by subst he; exact key v W' hR hb hfr
/-- THE LAW -/
theorem wp_wide {id : Nat} {a0 : Act} {w0 : World} {l : List Oper} (hs : List Head) (hmx : P.follows .mixedOrders = true) (hlen : hs.length ≤ l.length)
    (hB : wideB l.toArray hs.length (hs.map (·.deps)).toArray = true)
    (hdst : ∀ (i : Nat) (h : Head) (o : Oper), hs[i]? = some h → l[i]? = some o → o.guard = none ∧ o.dst = some h.dst) (hin : ∀ h ∈ hs, h.dst < a0.tmps.size) (hdis : (hs.map (·.dst)).Nodup) (hm : ∀ h ∈ hs, Mono h.R)
    (hy : ∀ (i : Nat) (h : Head) (o : Oper), hs[i]? = some h → l[i]? = some o → ∀ a W, Agree (hs.map (·.dst)) a0 a → Below w0.heap.size w0 W → (∀ j ∈ h.deps, ∀ (hj : Head), hs[j]? = some hj → hj.R (a.eval (.tmp hj.dst)) W) → Yields P o a W h.fresh h.R)
    (hk : ∀ (vs : Tmp → Value) W, (∀ (i : Nat) (h : Head), hs[i]? = some h → h.R (vs h.dst) W) → (∀ (i j : Nat) (h k : Head), hs[i]? = some h → hs[j]? = some k → i ≠ j → h.fresh = true → k.fresh = true → blk (vs h.dst) ≠ blk (vs k.dst)) → Below w0.heap.size w0 W → wpList P l.toArray Q (l.drop hs.length) ((hs.map (·.dst)).foldl (fun x d => x.put (some d) (vs d)) a0) W) :
    (Code.region id l.toArray true).wp P Q a0 w0 := by
  refine wp_region_any hmx ?_
  have hinv : HeadInv .any l.toArray hs.length (Array.replicate l.toArray.size false) := ⟨by simp, fun j oj hj hl => (by rw [getD_replicate_false] at hl; cases hl), fun t ht ht' => getD_in (by simpa using ht') (getD_replicate_false _ _)⟩
  have hunl : ∀ n, unl (Array.replicate l.toArray.size false) n = n := fun n => by
    induction n with
    | zero => rfl
    | succ n ih => rw [unl, ih, getD_replicate_false]; simp
  have h1 := wide_any (P := P) (Q := Q) (l := l) (hs := hs) (a0 := a0) (w0 := w0) (g := l.length - hs.length) hB (by simp) hdst hlen hin hdis hm hy
    (fun a W hA hb hR hF => by
      have := hk (fun d => a.eval (.tmp d)) W hR hF hb
      rw [← Agree.rebuild _ _ hA] at this
      exact this) hs.length (Array.replicate l.toArray.size false) a0 { w0 with drawn := w0.drawn + 1 } hinv (hunl _)
    ⟨Agree.refl _ _, (Below.refl _ w0).drew, fun i h hi hl => (by rw [getD_replicate_false] at hl; cases hl), fun i h hi hl => (by rw [getD_replicate_false] at hl; cases hl), fun i j h k hi hj hij hl => (by rw [getD_replicate_false] at hl; cases hl)⟩
  have hsz : l.toArray.size = hs.length + (l.length - hs.length) := by rw [List.size_toArray]; omega
  have e : wpAny P .any l.toArray Q l.toArray.size = wpAny P .any l.toArray Q (hs.length + (l.length - hs.length)) := congrArg _ hsz
  rw [e]
  exact h1
theorem wp_wide2 {id : Nat} {a0 : Act} {w0 : World} {l : List Oper} (hs : List Head) (hmx : P.follows .mixedOrders = true)
    (hB : wideB l.toArray hs.length (hs.map (·.deps)).toArray = true)
    (hlen : decide (hs.length ≤ l.length) = true) (hin : (hs.map (·.dst)).all (fun d => decide (d < a0.tmps.size)) = true) (hdis : decide ((hs.map (·.dst)).Nodup) = true)
    (hok : AllHeads (Head.ok P hs a0 w0) hs l)
    (hk : ∀ (vs : Tmp → Value) W, (∀ (i : Nat) (h : Head), hs[i]? = some h → h.R (vs h.dst) W) → (∀ (i j : Nat) (h k : Head), hs[i]? = some h → hs[j]? = some k → i ≠ j → h.fresh = true → k.fresh = true → blk (vs h.dst) ≠ blk (vs k.dst)) → Below w0.heap.size w0 W → wpList P l.toArray Q (l.drop hs.length) ((hs.map (·.dst)).foldl (fun x d => x.put (some d) (vs d)) a0) W) :
    (Code.region id l.toArray true).wp P Q a0 w0 := by
  have hlen' := of_decide_eq_true hlen
  have hmem : ∀ h ∈ hs, ∃ (i : Nat) (o : Oper), hs[i]? = some h ∧ l[i]? = some o := fun h hh => by
    obtain ⟨i, hi, rfl⟩ := List.getElem_of_mem hh
    exact ⟨i, _, List.getElem?_eq_getElem hi, List.getElem?_eq_getElem (by omega)⟩
  refine wp_wide hs hmx hlen' hB (fun i h o hi ho => ⟨(hok.at i h o hi ho).1, (hok.at i h o hi ho).2.1⟩) (fun h hh => ?_) (of_decide_eq_true hdis) (fun h hh => ?_) (fun i h o hi ho => (hok.at i h o hi ho).2.2.2) hk
  · have := List.all_eq_true.1 hin h.dst (List.mem_map.2 ⟨h, hh, rfl⟩)
    exact of_decide_eq_true this
  · obtain ⟨i, o, hi, ho⟩ := hmem h hh
    exact (hok.at i h o hi ho).2.2.1
end
end Go.Proofs.YtakgebbeknfplaaGreat

namespace Go.Proofs.YtakgebbeknfplaaGreat
open Go.RowKit
set_option linter.unusedVariables false

section
variable {P : Program} {Q : Exit → Act → World → Prop}
/-- what an operation does, if it is wanted; else its slot tells nothing -/
def Takes (P : Program) (ops : Array Oper) (o : Oper) (a : Act) (W : World) (fr : Bool) (R : Value → World → Prop) : Prop :=
  (Region.wanted o (yielded ops a.tmps) = true ∧ Yields P o a W fr R) ∨ (Region.wanted o (yielded ops a.tmps) = false ∧ R undef W ∧ fr = false)
theorem takes_plain {ops : Array Oper} {o : Oper} {a : Act} {W : World} {fr : Bool} {R : Value → World → Prop} (hg : o.guard = none) (h : Yields P o a W fr R) : Takes P ops o a W fr R := .inl ⟨by simp [Region.wanted, hg], h⟩
theorem yielded_eval {ops : Array Oper} {a : Act} {i : Nat} {o : Oper} {d : Tmp} {b : Bool} (ho : ops[i]? = some o) (hd : o.dst = some d) (he : a.eval (.tmp d) = .bool b) : yielded ops a.tmps i = some b := by
  have h2 : a.tmps[d]?.getD undef = .bool b := by simpa [Act.eval] using he
  unfold yielded
  rw [ho]
  simp only [Option.bind_some, hd]
  cases hq : a.tmps[d]? with
  | none => rw [hq] at h2; cases h2
  | some v =>
    rw [hq] at h2
    simp only [Option.getD_some] at h2
    subst h2
    rfl
theorem takes_on {ops : Array Oper} {o oi : Oper} {a : Act} {W : World} {fr : Bool} {R : Value → World → Prop} {i : Nat} {d : Tmp} {b : Bool} (hg : o.guard = some (i, b)) (ho : ops[i]? = some oi) (hd : oi.dst = some d) (he : a.eval (.tmp d) = .bool b) (h : Yields P o a W fr R) : Takes P ops o a W fr R :=
  .inl ⟨by simp [Region.wanted, hg, yielded_eval ho hd he], h⟩
theorem takes_off {ops : Array Oper} {o oi : Oper} {a : Act} {W : World} {R : Value → World → Prop} {i : Nat} {d : Tmp} {b : Bool} (hg : o.guard = some (i, b)) (ho : ops[i]? = some oi) (hd : oi.dst = some d) (he : a.eval (.tmp d) = .bool (!b)) (h : R undef W) : Takes P ops o a W false R :=
  .inr ⟨by cases b <;> simp [Region.wanted, hg, yielded_eval ho hd he], h, rfl⟩
theorem wide3_any {l : List Oper} {hs : List Head} {a0 : Act} {w0 : World} {g : Nat} (hW : wideB l.toArray hs.length (hs.map (·.deps)).toArray = true) (hg : (l.drop hs.length).length = g)
    (hdst : ∀ (i : Nat) (h : Head) (o : Oper), hs[i]? = some h → l[i]? = some o → o.dst = some h.dst) (hlen : hs.length ≤ l.length) (hin : ∀ h ∈ hs, h.dst < a0.tmps.size) (hdis : (hs.map (·.dst)).Nodup)
    (hm : ∀ h ∈ hs, Mono h.R)
    (hy : ∀ (i : Nat) (h : Head) (o : Oper), hs[i]? = some h → l[i]? = some o → ∀ a W, Agree (hs.map (·.dst)) a0 a → Below w0.heap.size w0 W → (∀ j ∈ h.deps, ∀ (hj : Head), hs[j]? = some hj → hj.R (a.eval (.tmp hj.dst)) W) → Takes P l.toArray o a W h.fresh h.R)
    (hk : ∀ a W, Agree (hs.map (·.dst)) a0 a → Below w0.heap.size w0 W → (∀ (i : Nat) (h : Head), hs[i]? = some h → h.R (a.eval (.tmp h.dst)) W) → (∀ (i j : Nat) (h k : Head), hs[i]? = some h → hs[j]? = some k → i ≠ j → h.fresh = true → k.fresh = true → blk (a.eval (.tmp h.dst)) ≠ blk (a.eval (.tmp k.dst))) → wpList P l.toArray Q (l.drop hs.length) a W) :
    ∀ (f : Nat) (listed : Array Bool) (a : Act) (W : World), HeadInv .any l.toArray hs.length listed → unl listed hs.length = f → FreeInv hs a0 w0 listed a W → wpAny P .any l.toArray Q (f + g) listed a W
  | 0, listed, a, W, inv, hu, hI => by
    have hWd := wide_of hW
    have hall := unl_zero _ hu
    rw [Nat.zero_add]
    have hsq := hWd.seq
    rw [← all_listed inv hWd.lt hall, show l.toArray.size - hs.length = g by rw [← hg]; simp] at hsq
    have := wpAny_of_seq (md := .any) (Q' := Q) (P := P) (l.drop hs.length) hs.length listed a W (fun j => by simp [List.getElem?_drop]) (by rw [hg]; exact hsq) (hk a W hI.1 hI.2.1 (fun i h hi => hI.2.2.1 i h hi (hall i (lt_of_some hi))) (fun i j h k hi hj hij => hI.2.2.2.2 i j h k hi hj hij (hall i (lt_of_some hi)) (hall j (lt_of_some hj))))
    rwa [hg] at this
  | f + 1, listed, a, W, inv, hu, hI => by
    have hWd := wide_of hW
    obtain ⟨i0, hi0, hun0, hlow0⟩ := unl_pos (listed := listed) hs.length (by omega)
    have hsz := inv.size
    have hun0' : listed.getD i0 true = false := getD_in (by have := hWd.lt; omega) hun0
    rw [show f + 1 + g = (f + g) + 1 by omega]
    have hne : i0 ∈ Region.ready .any l.toArray listed := by
      obtain ⟨o, ho, hb⟩ := hWd.low i0 hi0
      exact mem_ready.2 ⟨hun0', o, ho, fun e he hbd => hlow0 _ (hb e he hbd)⟩
    refine ⟨fun e => (by rw [e] at hne; cases hne), fun i hi => ?_⟩
    have hin2 : i < hs.length := by
      rcases Nat.lt_or_ge i hs.length with h | h
      · exact h
      · exact absurd hi (tail_waits hWd.sink hWd.chain hWd.lt inv _ i0 rfl hi0 hun0' i h)
    have hdep : ∀ d ∈ ((hs.map (·.deps)).toArray.getD i []), listed.getD d false = true := fun d hd => by
      obtain ⟨_, oi, hoi, hall⟩ := mem_ready.1 hi
      obtain ⟨oj, hoj, e, he, hb, hon⟩ := Region.waitsFor_spec (hWd.dep i hin2 d hd).2
      have : oj = oi := Option.some.inj (hoj.symm.trans hoi)
      subst this
      rw [← hon]
      exact hall e he hb
    have hrec : unl (listed.setIfInBounds i true) hs.length = f := by
      have := unl_set (listed := listed) (i := i) (by have := hWd.lt; omega) (getD_both (mem_ready.1 hi).1) hs.length hin2
      omega
    have hil : i < l.length := by omega
    obtain ⟨h, hh⟩ : ∃ h, hs[i]? = some h := ⟨_, List.getElem?_eq_getElem hin2⟩
    obtain ⟨o, ho⟩ : ∃ o, l[i]? = some o := ⟨_, List.getElem?_eq_getElem hil⟩
    have hd := hdst i h o hh ho
    have hmem : h ∈ hs := List.mem_of_getElem? hh
    have hdep2 : ∀ j ∈ h.deps, ∀ (hj : Head), hs[j]? = some hj → hj.R (a.eval (.tmp hj.dst)) W := fun j hj hj' hjj => by
      have hd1 : ((hs.map (·.deps)).toArray.getD i []) = h.deps := by simp [hh]
      exact hI.2.2.1 j hj' hjj (hdep j (by rw [hd1]; exact hj))
    have hself : ∀ v, (a.put (some h.dst) v).eval (.tmp h.dst) = v := fun v => by
      have hs1 : h.dst < a.tmps.size := by rw [hI.1.2.1]; exact hin h hmem
      simp [Act.put, Act.eval, hs1]
    have hoth : ∀ v (j : Nat) (hj : Head), hs[j]? = some hj → j ≠ i → (a.put (some h.dst) v).eval (.tmp hj.dst) = a.eval (.tmp hj.dst) := fun v j hj hjj hij => by
      refine eval_put_ne (fun e => hij ?_) _ _
      have hjl := lt_of_some hjj
      have e1 : (hs.map (·.dst))[j]'(by simpa using hjl) = (hs.map (·.dst))[i]'(by simpa using hin2) := by
        rw [List.getElem?_eq_getElem hjl] at hjj
        rw [List.getElem?_eq_getElem hin2] at hh
        injection hjj with hjj
        injection hh with hh
        simp only [List.getElem_map, hjj, hh]
        exact e.symm
      exact (List.getElem_inj hdis).1 e1
    have hlis : ∀ (j : Nat), j ≠ i → (listed.setIfInBounds i true).getD j false = true → listed.getD j false = true := fun j hij h' => by
      rw [Array.getD_eq_getD_getElem?, Array.getElem?_setIfInBounds_ne (Ne.symm hij)] at h'
      rw [Array.getD_eq_getD_getElem?]
      exact h'
    have key : ∀ v W', h.R v W' → Below W.heap.size W W' → Fresh h.fresh v W W' → wpAny P .any l.toArray Q (f + g) (listed.setIfInBounds i true) (a.put (some h.dst) v) W' := fun v W' hR hb hfr => by
      refine wide3_any hW hg hdst hlen hin hdis hm hy hk f _ _ _ (inv.set hi hin2) hrec ⟨hI.1.put (List.mem_map.2 ⟨h, hmem, rfl⟩) v, below_tr hI.2.1 hb hI.2.1.size, fun j hj hjj hlj => ?_, fun j hj hjj hlj hf => ?_, fun j k hj hk' hjj hkk hjk hlj hlk hfj hfk => ?_⟩
      · by_cases hij : j = i
        · subst hij
          rw [hh] at hjj
          injection hjj with hjj
          subst hjj
          rw [hself]
          exact hR
        · rw [hoth v j hj hjj hij]
          exact hm hj (List.mem_of_getElem? hjj) _ _ _ (hI.2.2.1 j hj hjj (hlis j hij hlj)) hb
      · by_cases hij : j = i
        · subst hij
          rw [hh] at hjj
          injection hjj with hjj
          subst hjj
          rw [hself]
          obtain ⟨g', e1, e2, e3⟩ := hfr hf
          exact ⟨g', e1, Nat.le_trans hI.2.1.size e2, e3⟩
        · rw [hoth v j hj hjj hij]
          obtain ⟨g', e1, e2, e3⟩ := hI.2.2.2.1 j hj hjj (hlis j hij hlj) hf
          exact ⟨g', e1, e2, Nat.lt_of_lt_of_le e3 hb.size⟩
      · by_cases hij : j = i
        · subst hij
          have hki : k ≠ j := Ne.symm hjk
          rw [hh] at hjj
          injection hjj with hjj
          subst hjj
          rw [hself, hoth v k hk' hkk hki]
          obtain ⟨g', e1, e2, e3⟩ := hfr hfj
          obtain ⟨g2, f1, f2, f3⟩ := hI.2.2.2.1 k hk' hkk (hlis k hki hlk) hfk
          rw [e1, f1]
          intro e
          injection e with e
          omega
        · by_cases hik : k = i
          · subst hik
            rw [hh] at hkk
            injection hkk with hkk
            subst hkk
            rw [hself, hoth v j hj hjj hij]
            obtain ⟨g', e1, e2, e3⟩ := hfr hfk
            obtain ⟨g2, f1, f2, f3⟩ := hI.2.2.2.1 j hj hjj (hlis j hij hlj) hfj
            rw [e1, f1]
            intro e
            injection e with e
            omega
          · rw [hoth v j hj hjj hij, hoth v k hk' hkk hik]
            exact hI.2.2.2.2 j k hj hk' hjj hkk hjk (hlis j hij hlj) (hlis k hik hlk) hfj hfk
    unfold wpOp
    rw [show l.toArray[i]? = some o by simpa using ho]
    simp only
    rcases hy i h o hh ho a W hI.1 hI.2.1 hdep2 with ⟨hwt, hyl⟩ | ⟨hwt, hR, hfr⟩
    · rw [if_pos hwt]
      refine .inl ?_
      unfold Oper.wp
      rcases hyl with ⟨v, W', hr, hR, hb, hfr⟩ | ⟨fn, args, hr, hc⟩
      · rw [hr]
        simp only [Oper.upon, hd]
        exact key v W' hR hb hfr
      · rw [hr]
        simp only [Oper.upon, hd]
        exact hc.mono fun e W' ⟨v, he, hR, hb, hfr⟩ => by subst he; exact key v W' hR hb hfr
    · rw [if_neg (by rw [hwt]; exact Bool.false_ne_true)]
      rw [hd]
      exact key undef W hR (Below.refl _ _) (by rw [hfr]; exact fresh_no _ _ _)
/-- what is asked of one -/
def Head.ok3 (P : Program) (ops : Array Oper) (hs : List Head) (a0 : Act) (w0 : World) (h : Head) (o : Oper) : Prop :=
  o.dst = some h.dst ∧ Mono h.R ∧ (∀ a W, Agree (hs.map (·.dst)) a0 a → Below w0.heap.size w0 W → (∀ j ∈ h.deps, ∀ (hj : Head), hs[j]? = some hj → hj.R (a.eval (.tmp hj.dst)) W) → Takes P ops o a W h.fresh h.R)
/-- THE LAW -/
theorem wp_wide3a {id : Nat} {a0 : Act} {w0 : World} {l : List Oper} (hs : List Head) (hmx : P.follows .mixedOrders = true) (hlen : hs.length ≤ l.length)
    (hB : wideB l.toArray hs.length (hs.map (·.deps)).toArray = true)
    (hdst : ∀ (i : Nat) (h : Head) (o : Oper), hs[i]? = some h → l[i]? = some o → o.dst = some h.dst) (hin : ∀ h ∈ hs, h.dst < a0.tmps.size) (hdis : (hs.map (·.dst)).Nodup) (hm : ∀ h ∈ hs, Mono h.R)
    (hy : ∀ (i : Nat) (h : Head) (o : Oper), hs[i]? = some h → l[i]? = some o → ∀ a W, Agree (hs.map (·.dst)) a0 a → Below w0.heap.size w0 W → (∀ j ∈ h.deps, ∀ (hj : Head), hs[j]? = some hj → hj.R (a.eval (.tmp hj.dst)) W) → Takes P l.toArray o a W h.fresh h.R)
    (hk : ∀ (vs : Tmp → Value) W, (∀ (i : Nat) (h : Head), hs[i]? = some h → h.R (vs h.dst) W) → (∀ (i j : Nat) (h k : Head), hs[i]? = some h → hs[j]? = some k → i ≠ j → h.fresh = true → k.fresh = true → blk (vs h.dst) ≠ blk (vs k.dst)) → Below w0.heap.size w0 W → wpList P l.toArray Q (l.drop hs.length) ((hs.map (·.dst)).foldl (fun x d => x.put (some d) (vs d)) a0) W) :
    (Code.region id l.toArray true).wp P Q a0 w0 := by
  refine wp_region_any hmx ?_
  have hinv : HeadInv .any l.toArray hs.length (Array.replicate l.toArray.size false) := ⟨by simp, fun j oj hj hl => (by rw [getD_replicate_false] at hl; cases hl), fun t ht ht' => getD_in (by simpa using ht') (getD_replicate_false _ _)⟩
  have hunl : ∀ n, unl (Array.replicate l.toArray.size false) n = n := fun n => by
    induction n with
    | zero => rfl
    | succ n ih => rw [unl, ih, getD_replicate_false]; simp
  have h1 := wide3_any (P := P) (Q := Q) (l := l) (hs := hs) (a0 := a0) (w0 := w0) (g := l.length - hs.length) hB (by simp) hdst hlen hin hdis hm hy
    (fun a W hA hb hR hF => by
      have := hk (fun d => a.eval (.tmp d)) W hR hF hb
      rw [← Agree.rebuild _ _ hA] at this
      exact this) hs.length (Array.replicate l.toArray.size false) a0 { w0 with drawn := w0.drawn + 1 } hinv (hunl _)
    ⟨Agree.refl _ _, (Below.refl _ w0).drew, fun i h hi hl => (by rw [getD_replicate_false] at hl; cases hl), fun i h hi hl => (by rw [getD_replicate_false] at hl; cases hl), fun i j h k hi hj hij hl => (by rw [getD_replicate_false] at hl; cases hl)⟩
  have hsz : l.toArray.size = hs.length + (l.length - hs.length) := by rw [List.size_toArray]; omega
  have e : wpAny P .any l.toArray Q l.toArray.size = wpAny P .any l.toArray Q (hs.length + (l.length - hs.length)) := congrArg _ hsz
  rw [e]
  exact h1
theorem wp_wide3 {id : Nat} {a0 : Act} {w0 : World} {l : List Oper} (hs : List Head) (hmx : P.follows .mixedOrders = true)
    (hB : wideB l.toArray hs.length (hs.map (·.deps)).toArray = true)
    (hlen : decide (hs.length ≤ l.length) = true) (hin : (hs.map (·.dst)).all (fun d => decide (d < a0.tmps.size)) = true) (hdis : decide ((hs.map (·.dst)).Nodup) = true)
    (hok : AllHeads (Head.ok3 P l.toArray hs a0 w0) hs l)
    (hk : ∀ (vs : Tmp → Value) W, (∀ (i : Nat) (h : Head), hs[i]? = some h → h.R (vs h.dst) W) → (∀ (i j : Nat) (h k : Head), hs[i]? = some h → hs[j]? = some k → i ≠ j → h.fresh = true → k.fresh = true → blk (vs h.dst) ≠ blk (vs k.dst)) → Below w0.heap.size w0 W → wpList P l.toArray Q (l.drop hs.length) ((hs.map (·.dst)).foldl (fun x d => x.put (some d) (vs d)) a0) W) :
    (Code.region id l.toArray true).wp P Q a0 w0 := by
  have hlen' := of_decide_eq_true hlen
  have hmem : ∀ h ∈ hs, ∃ (i : Nat) (o : Oper), hs[i]? = some h ∧ l[i]? = some o := fun h hh => by
    obtain ⟨i, hi, rfl⟩ := List.getElem_of_mem hh
    exact ⟨i, _, List.getElem?_eq_getElem hi, List.getElem?_eq_getElem (by omega)⟩
  refine wp_wide3a hs hmx hlen' hB (fun i h o hi ho => (hok.at i h o hi ho).1) (fun h hh => ?_) (of_decide_eq_true hdis) (fun h hh => ?_) (fun i h o hi ho => (hok.at i h o hi ho).2.2) hk
  · have := List.all_eq_true.1 hin h.dst (List.mem_map.2 ⟨h, hh, rfl⟩)
    exact of_decide_eq_true this
  · obtain ⟨i, o, hi, ho⟩ := hmem h hh
    exact (hok.at i h o hi ho).2.1
end
end Go.Proofs.YtakgebbeknfplaaGreat
