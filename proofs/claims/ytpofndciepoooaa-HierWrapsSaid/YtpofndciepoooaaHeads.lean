/-
  A REGION THAT DRAWS ITS ORDER whose first two or three operations stand side by side, whether they make memory or only read; what is behind them waits for all of them.
-/
import Derived.Test.YtpofndciepoooaaGhA
import Derived.Test.YtpofndciepoooaaHd
namespace Go.Proofs.Ytpofndciepoooaa
open Go.RowKit
set_option linter.unusedVariables false

theorem put_comm {d e : Tmp} (h : d ≠ e) (a : Act) (u v : Value) : (a.put (some d) u).put (some e) v = (a.put (some e) v).put (some d) u := by
  simp only [Act.put]
  rw [Array.setIfInBounds_comm _ _ h]
theorem eval_put_ne {d t : Tmp} (h : d ≠ t) (a : Act) (u : Value) : (a.put (some d) u).eval (.tmp t) = a.eval (.tmp t) := by
  simp only [Act.put, Act.eval, Array.getD_eq_getD_getElem?]
  rw [Array.getElem?_setIfInBounds_ne h]
section
variable {P : Program} {Q : Exit → Act → World → Prop} {w0 : World} {A : Act → Prop}
/-- one that hands back something of which R is known, in whatever world above the first one -/
structure HeadOp (P : Program) (w0 : World) (A : Act → Prop) (o : Oper) (d : Tmp) (R : Value → World → Prop) : Prop where
  guard : o.guard = none
  dst : o.dst = some d
  run : ∀ a W, A a → Below w0.heap.size w0 W → ∃ v W', (execOp a.eval o).run P W = .ok (.value v) W' ∧ R v W' ∧ Below w0.heap.size w0 W' ∧ Below W.heap.size W W'
theorem head_step {ops : Array Oper} {i : Nat} {o : Oper} {d : Tmp} {R : Value → World → Prop} {K : Act → World → Prop} {a : Act} {W : World} (h : HeadOp P w0 A o d R) (hi : ops[i]? = some o) (ha : A a) (hb : Below w0.heap.size w0 W)
    (hK : ∀ v W', R v W' → Below w0.heap.size w0 W' → Below W.heap.size W W' → K (a.put (some d) v) W') : wpOp P ops Q i K a W := by
  obtain ⟨v, W', hr, hR, hb2, hb3⟩ := h.run a W ha hb
  unfold wpOp
  rw [hi]
  simp only
  rw [if_pos (by simp [Region.wanted, h.guard])]
  refine .inl ?_
  unfold Oper.wp
  rw [hr]
  simp only [Oper.upon, h.dst]
  exact hK v W' hR hb2 hb3
def Mono (R : Value → World → Prop) : Prop := ∀ v W W', R v W → Below W.heap.size W W' → R v W'

def heads2B (ops : Array Oper) : Bool :=
  let s0 := Array.replicate ops.size false
  decide (Region.ready .any ops s0 = [0, 1]) &&
  decide (Region.ready .any ops (s0.setIfInBounds 0 true) = [1]) &&
  decide (Region.ready .any ops (s0.setIfInBounds 1 true) = [0])
theorem wp_heads2 {id : Nat} {a : Act} {w : World} {l : List Oper} (f : Nat) {o0 o1 : Oper} {d0 d1 : Tmp} {R0 R1 : Value → World → Prop} (A : Act → Prop)
    (hm : P.follows .mixedOrders = true) (hsz : l.length = f + 2) (h0 : l[0]? = some o0) (h1 : l[1]? = some o1) (hB : heads2B l.toArray = true)
    (H0 : HeadOp P w A o0 d0 R0) (H1 : HeadOp P w A o1 d1 R1) (M0 : Mono R0) (M1 : Mono R1) (n01 : d0 ≠ d1)
    (hA : A a) (hA0 : ∀ a v, A a → A (a.put (some d0) v)) (hA1 : ∀ a v, A a → A (a.put (some d1) v))
    (h : ∀ v0 v1 w', R0 v0 w' → R1 v1 w' → Below w.heap.size w w' → wpAny P .any l.toArray Q f (((Array.replicate l.toArray.size false).setIfInBounds 0 true).setIfInBounds 1 true) (((a.put (some d0) v0).put (some d1) v1)) w') : (Code.region id l.toArray true).wp P Q a w := by
  simp only [heads2B, Bool.and_eq_true, decide_eq_true_eq] at hB
  obtain ⟨⟨r, q0⟩, q1⟩ := hB
  have hsz' : l.toArray.size = f + 2 := by simpa using hsz
  refine wp_region_any hm ?_
  rw [show wpAny P .any l.toArray Q l.toArray.size = wpAny P .any l.toArray Q (f + 2) from by rw [hsz']]
  have hb0 : Below w.heap.size w { w with drawn := w.drawn + 1 } := (Below.refl _ w).drew
  refine ⟨fun e => absurd (r.symm.trans e) (by simp), fun i hi => ?_⟩
  rw [r] at hi
  simp only [List.mem_cons, List.not_mem_nil, or_false] at hi
  rcases hi with rfl | rfl
  · refine head_step H0 (by simpa using h0) hA hb0 (fun v0 W0 rr0 b0 s0 => ?_)
    refine ⟨fun e => absurd (q0.symm.trans e) (by simp), fun i hi => ?_⟩
    rw [q0] at hi
    simp only [List.mem_cons, List.not_mem_nil, or_false] at hi
    subst hi
    refine head_step H1 (by simpa using h1) (hA0 _ _ hA) b0 (fun v1 W1 rr1 b1 s1 => ?_)
    exact h v0 v1 _ (M0 _ _ _ rr0 s1) rr1 b1
  · refine head_step H1 (by simpa using h1) hA hb0 (fun v1 W1 rr1 b1 s1 => ?_)
    refine ⟨fun e => absurd (q1.symm.trans e) (by simp), fun i hi => ?_⟩
    rw [q1] at hi
    simp only [List.mem_cons, List.not_mem_nil, or_false] at hi
    subst hi
    refine head_step H0 (by simpa using h0) (hA1 _ _ hA) b1 (fun v0 W0 rr0 b0 s0 => ?_)
    rw [put_comm n01.symm _ v1 v0]
    rw [show ((Array.replicate l.toArray.size false).setIfInBounds 1 true).setIfInBounds 0 true = ((Array.replicate l.toArray.size false).setIfInBounds 0 true).setIfInBounds 1 true from Array.setIfInBounds_comm _ _ (by decide)]
    exact h v0 v1 _ rr0 (M1 _ _ _ rr1 s0) b0

def heads3B (ops : Array Oper) : Bool :=
  let s0 := Array.replicate ops.size false
  decide (Region.ready .any ops s0 = [0, 1, 2]) &&
  decide (Region.ready .any ops (s0.setIfInBounds 0 true) = [1, 2]) &&
  decide (Region.ready .any ops (s0.setIfInBounds 1 true) = [0, 2]) &&
  decide (Region.ready .any ops (s0.setIfInBounds 2 true) = [0, 1]) &&
  decide (Region.ready .any ops ((s0.setIfInBounds 0 true).setIfInBounds 1 true) = [2]) &&
  decide (Region.ready .any ops ((s0.setIfInBounds 0 true).setIfInBounds 2 true) = [1]) &&
  decide (Region.ready .any ops ((s0.setIfInBounds 1 true).setIfInBounds 0 true) = [2]) &&
  decide (Region.ready .any ops ((s0.setIfInBounds 1 true).setIfInBounds 2 true) = [0]) &&
  decide (Region.ready .any ops ((s0.setIfInBounds 2 true).setIfInBounds 0 true) = [1]) &&
  decide (Region.ready .any ops ((s0.setIfInBounds 2 true).setIfInBounds 1 true) = [0])
theorem wp_heads3 {id : Nat} {a : Act} {w : World} {l : List Oper} (f : Nat) {o0 o1 o2 : Oper} {d0 d1 d2 : Tmp} {R0 R1 R2 : Value → World → Prop} (A : Act → Prop)
    (hm : P.follows .mixedOrders = true) (hsz : l.length = f + 3) (h0 : l[0]? = some o0) (h1 : l[1]? = some o1) (h2 : l[2]? = some o2) (hB : heads3B l.toArray = true)
    (H0 : HeadOp P w A o0 d0 R0) (H1 : HeadOp P w A o1 d1 R1) (H2 : HeadOp P w A o2 d2 R2) (M0 : Mono R0) (M1 : Mono R1) (M2 : Mono R2) (n01 : d0 ≠ d1) (n02 : d0 ≠ d2) (n12 : d1 ≠ d2)
    (hA : A a) (hA0 : ∀ a v, A a → A (a.put (some d0) v)) (hA1 : ∀ a v, A a → A (a.put (some d1) v)) (hA2 : ∀ a v, A a → A (a.put (some d2) v))
    (h : ∀ v0 v1 v2 w', R0 v0 w' → R1 v1 w' → R2 v2 w' → Below w.heap.size w w' → wpAny P .any l.toArray Q f ((((Array.replicate l.toArray.size false).setIfInBounds 0 true).setIfInBounds 1 true).setIfInBounds 2 true) ((((a.put (some d0) v0).put (some d1) v1).put (some d2) v2)) w') : (Code.region id l.toArray true).wp P Q a w := by
  simp only [heads3B, Bool.and_eq_true, decide_eq_true_eq] at hB
  obtain ⟨⟨⟨⟨⟨⟨⟨⟨⟨r, q0⟩, q1⟩, q2⟩, q3⟩, q4⟩, q5⟩, q6⟩, q7⟩, q8⟩ := hB
  have hsz' : l.toArray.size = f + 3 := by simpa using hsz
  refine wp_region_any hm ?_
  rw [show wpAny P .any l.toArray Q l.toArray.size = wpAny P .any l.toArray Q (f + 3) from by rw [hsz']]
  have hb0 : Below w.heap.size w { w with drawn := w.drawn + 1 } := (Below.refl _ w).drew
  refine ⟨fun e => absurd (r.symm.trans e) (by simp), fun i hi => ?_⟩
  rw [r] at hi
  simp only [List.mem_cons, List.not_mem_nil, or_false] at hi
  rcases hi with rfl | rfl | rfl
  · refine head_step H0 (by simpa using h0) hA hb0 (fun v0 W0 rr0 b0 s0 => ?_)
    refine ⟨fun e => absurd (q0.symm.trans e) (by simp), fun i hi => ?_⟩
    rw [q0] at hi
    simp only [List.mem_cons, List.not_mem_nil, or_false] at hi
    rcases hi with rfl | rfl
    · refine head_step H1 (by simpa using h1) (hA0 _ _ hA) b0 (fun v1 W1 rr1 b1 s1 => ?_)
      refine ⟨fun e => absurd (q3.symm.trans e) (by simp), fun i hi => ?_⟩
      rw [q3] at hi
      simp only [List.mem_cons, List.not_mem_nil, or_false] at hi
      subst hi
      refine head_step H2 (by simpa using h2) (hA1 _ _ (hA0 _ _ hA)) b1 (fun v2 W2 rr2 b2 s2 => ?_)
      exact h v0 v1 v2 _ (M0 _ _ _ (M0 _ _ _ rr0 s1) s2) (M1 _ _ _ rr1 s2) rr2 b2
    · refine head_step H2 (by simpa using h2) (hA0 _ _ hA) b0 (fun v2 W2 rr2 b2 s2 => ?_)
      refine ⟨fun e => absurd (q4.symm.trans e) (by simp), fun i hi => ?_⟩
      rw [q4] at hi
      simp only [List.mem_cons, List.not_mem_nil, or_false] at hi
      subst hi
      refine head_step H1 (by simpa using h1) (hA2 _ _ (hA0 _ _ hA)) b2 (fun v1 W1 rr1 b1 s1 => ?_)
      rw [put_comm n12.symm _ v2 v1]
      rw [show (((Array.replicate l.toArray.size false).setIfInBounds 0 true).setIfInBounds 2 true).setIfInBounds 1 true = (((Array.replicate l.toArray.size false).setIfInBounds 0 true).setIfInBounds 1 true).setIfInBounds 2 true from Array.setIfInBounds_comm _ _ (by decide)]
      exact h v0 v1 v2 _ (M0 _ _ _ (M0 _ _ _ rr0 s2) s1) rr1 (M2 _ _ _ rr2 s1) b1
  · refine head_step H1 (by simpa using h1) hA hb0 (fun v1 W1 rr1 b1 s1 => ?_)
    refine ⟨fun e => absurd (q1.symm.trans e) (by simp), fun i hi => ?_⟩
    rw [q1] at hi
    simp only [List.mem_cons, List.not_mem_nil, or_false] at hi
    rcases hi with rfl | rfl
    · refine head_step H0 (by simpa using h0) (hA1 _ _ hA) b1 (fun v0 W0 rr0 b0 s0 => ?_)
      refine ⟨fun e => absurd (q5.symm.trans e) (by simp), fun i hi => ?_⟩
      rw [q5] at hi
      simp only [List.mem_cons, List.not_mem_nil, or_false] at hi
      subst hi
      refine head_step H2 (by simpa using h2) (hA0 _ _ (hA1 _ _ hA)) b0 (fun v2 W2 rr2 b2 s2 => ?_)
      rw [put_comm n01.symm _ v1 v0]
      rw [show ((Array.replicate l.toArray.size false).setIfInBounds 1 true).setIfInBounds 0 true = ((Array.replicate l.toArray.size false).setIfInBounds 0 true).setIfInBounds 1 true from Array.setIfInBounds_comm _ _ (by decide)]
      exact h v0 v1 v2 _ (M0 _ _ _ rr0 s2) (M1 _ _ _ (M1 _ _ _ rr1 s0) s2) rr2 b2
    · refine head_step H2 (by simpa using h2) (hA1 _ _ hA) b1 (fun v2 W2 rr2 b2 s2 => ?_)
      refine ⟨fun e => absurd (q6.symm.trans e) (by simp), fun i hi => ?_⟩
      rw [q6] at hi
      simp only [List.mem_cons, List.not_mem_nil, or_false] at hi
      subst hi
      refine head_step H0 (by simpa using h0) (hA2 _ _ (hA1 _ _ hA)) b2 (fun v0 W0 rr0 b0 s0 => ?_)
      rw [put_comm n02.symm _ v2 v0, put_comm n01.symm _ v1 v0]
      rw [show (((Array.replicate l.toArray.size false).setIfInBounds 1 true).setIfInBounds 2 true).setIfInBounds 0 true = (((Array.replicate l.toArray.size false).setIfInBounds 1 true).setIfInBounds 0 true).setIfInBounds 2 true from Array.setIfInBounds_comm _ _ (by decide)]
      rw [show ((Array.replicate l.toArray.size false).setIfInBounds 1 true).setIfInBounds 0 true = ((Array.replicate l.toArray.size false).setIfInBounds 0 true).setIfInBounds 1 true from Array.setIfInBounds_comm _ _ (by decide)]
      exact h v0 v1 v2 _ rr0 (M1 _ _ _ (M1 _ _ _ rr1 s2) s0) (M2 _ _ _ rr2 s0) b0
  · refine head_step H2 (by simpa using h2) hA hb0 (fun v2 W2 rr2 b2 s2 => ?_)
    refine ⟨fun e => absurd (q2.symm.trans e) (by simp), fun i hi => ?_⟩
    rw [q2] at hi
    simp only [List.mem_cons, List.not_mem_nil, or_false] at hi
    rcases hi with rfl | rfl
    · refine head_step H0 (by simpa using h0) (hA2 _ _ hA) b2 (fun v0 W0 rr0 b0 s0 => ?_)
      refine ⟨fun e => absurd (q7.symm.trans e) (by simp), fun i hi => ?_⟩
      rw [q7] at hi
      simp only [List.mem_cons, List.not_mem_nil, or_false] at hi
      subst hi
      refine head_step H1 (by simpa using h1) (hA0 _ _ (hA2 _ _ hA)) b0 (fun v1 W1 rr1 b1 s1 => ?_)
      rw [put_comm n02.symm _ v2 v0, put_comm n12.symm _ v2 v1]
      rw [show ((Array.replicate l.toArray.size false).setIfInBounds 2 true).setIfInBounds 0 true = ((Array.replicate l.toArray.size false).setIfInBounds 0 true).setIfInBounds 2 true from Array.setIfInBounds_comm _ _ (by decide)]
      rw [show (((Array.replicate l.toArray.size false).setIfInBounds 0 true).setIfInBounds 2 true).setIfInBounds 1 true = (((Array.replicate l.toArray.size false).setIfInBounds 0 true).setIfInBounds 1 true).setIfInBounds 2 true from Array.setIfInBounds_comm _ _ (by decide)]
      exact h v0 v1 v2 _ (M0 _ _ _ rr0 s1) rr1 (M2 _ _ _ (M2 _ _ _ rr2 s0) s1) b1
    · refine head_step H1 (by simpa using h1) (hA2 _ _ hA) b2 (fun v1 W1 rr1 b1 s1 => ?_)
      refine ⟨fun e => absurd (q8.symm.trans e) (by simp), fun i hi => ?_⟩
      rw [q8] at hi
      simp only [List.mem_cons, List.not_mem_nil, or_false] at hi
      subst hi
      refine head_step H0 (by simpa using h0) (hA1 _ _ (hA2 _ _ hA)) b1 (fun v0 W0 rr0 b0 s0 => ?_)
      rw [put_comm n12.symm _ v2 v1, put_comm n02.symm _ v2 v0, put_comm n01.symm _ v1 v0]
      rw [show ((Array.replicate l.toArray.size false).setIfInBounds 2 true).setIfInBounds 1 true = ((Array.replicate l.toArray.size false).setIfInBounds 1 true).setIfInBounds 2 true from Array.setIfInBounds_comm _ _ (by decide)]
      rw [show (((Array.replicate l.toArray.size false).setIfInBounds 1 true).setIfInBounds 2 true).setIfInBounds 0 true = (((Array.replicate l.toArray.size false).setIfInBounds 1 true).setIfInBounds 0 true).setIfInBounds 2 true from Array.setIfInBounds_comm _ _ (by decide)]
      rw [show ((Array.replicate l.toArray.size false).setIfInBounds 1 true).setIfInBounds 0 true = ((Array.replicate l.toArray.size false).setIfInBounds 0 true).setIfInBounds 1 true from Array.setIfInBounds_comm _ _ (by decide)]
      exact h v0 v1 v2 _ rr0 (M1 _ _ _ rr1 s0) (M2 _ _ _ (M2 _ _ _ rr2 s1) s0) b0
end
/-- the one call that waits for all that is listed -/
theorem any_call {P : Program} {Q : Exit → Act → World → Prop} {ops : Array Oper} {k f : Nat} {listed : Array Bool} {a : Act} {w : World} {o : Oper} {d : Tmp} {fn : FuncId} {args : Array Value} (hr : Region.ready .any ops listed = [k]) (hk : ops[k]? = some o) (hg : o.guard = none) (hd : o.dst = some d)
    (hrun : (execOp a.eval o).run P w = .ok (.enter fn args) w) (hc : Calls P fn args w fun e w' => ∃ v, e = .returned v ∧ wpAny P .any ops Q f (listed.setIfInBounds k true) (a.put (some d) v) w') : wpAny P .any ops Q (f + 1) listed a w := by
  refine ⟨fun e => absurd (hr.symm.trans e) (by simp), fun i hi => ?_⟩
  rw [hr] at hi
  simp only [List.mem_cons, List.not_mem_nil, or_false] at hi
  subst hi
  unfold wpOp
  rw [hk]
  simp only
  rw [if_pos (by simp [Region.wanted, hg])]
  refine .inl ?_
  unfold Oper.wp
  rw [hrun]
  simp only [Oper.upon, hd]
  exact hc.mono fun e w' ⟨v, he, h⟩ => by subst he; exact h
/-- one value that waits for all that is listed -/
theorem any_value {P : Program} {Q : Exit → Act → World → Prop} {ops : Array Oper} {k f : Nat} {listed : Array Bool} {a : Act} {w : World} {o : Oper} {v : Value} (hr : Region.ready .any ops listed = [k]) (hk : ops[k]? = some o) (hg : o.guard = none)
    (hrun : (execOp a.eval o).run P w = .ok (.value v) w) (hc : wpAny P .any ops Q f (listed.setIfInBounds k true) (a.put o.dst v) w) : wpAny P .any ops Q (f + 1) listed a w := by
  refine ⟨fun e => absurd (hr.symm.trans e) (by simp), fun i hi => ?_⟩
  rw [hr] at hi
  simp only [List.mem_cons, List.not_mem_nil, or_false] at hi
  subst hi
  unfold wpOp
  rw [hk]
  simp only
  rw [if_pos (by simp [Region.wanted, hg])]
  refine .inl ?_
  unfold Oper.wp
  rw [hrun]
  exact hc
def invB (ops : Array Oper) (n : Nat) (listed : Array Bool) : Bool :=
  listed.size == ops.size && (List.range ops.size).all (fun j => match ops[j]? with
    | some oj => !listed.getD j false || oj.after.toList.all (fun e => !Region.binds .any e || listed.getD e.on false)
    | none => true) && (List.range ops.size).all fun t => decide (t < n) || !listed.getD t true
theorem inv_of {ops : Array Oper} {n : Nat} {listed : Array Bool} (h : invB ops n listed = true) : HeadInv .any ops n listed := by
  simp only [invB, Bool.and_eq_true, beq_iff_eq, List.all_eq_true, List.mem_range] at h
  obtain ⟨⟨h1, h2⟩, h3⟩ := h
  refine ⟨h1, fun j oj hj hl e he hb => ?_, fun t ht ht' => ?_⟩
  · have hjs : j < ops.size := by
      rcases Nat.lt_or_ge j ops.size with h' | h'
      · exact h'
      · rw [Array.getElem?_eq_none h'] at hj; cases hj
    have := h2 j hjs
    rw [hj] at this
    simp only [hl, Bool.not_true, Bool.false_or, List.all_eq_true] at this
    have := this e (by simpa using he)
    simpa [hb] using this
  · have := h3 t ht'
    simpa [show ¬ t < n by omega] using this
def quietB (ops : Array Oper) (k n : Nat) (listed : Array Bool) : Bool :=
  Region.noSelect ops && decide (n < ops.size) && Region.sinkB .any ops n && Region.chainB .any ops n && invB ops n listed && Region.lexHead .any ops (ops.size - n) (n - k) k listed
/-- quiet ones from there on, then the tail in its order -/
theorem any_quiet {P : Program} {Q : Exit → Act → World → Prop} {l : List Oper} {k f : Nat} {listed : Array Bool} {a : Act} {w : World} (n : Nat) (C : World → Prop) (hkn : k ≤ n) (hf : l.length = f + k) (hB : quietB l.toArray k n listed = true) (hC : C w)
    (h : wpQuiet P l.toArray C (fun a' => ∀ w', C w' → wpList P l.toArray Q (l.drop n) a' w') ((l.drop k).take (n - k)) a) : wpAny P .any l.toArray Q f listed a w := by
  simp only [quietB, Bool.and_eq_true, decide_eq_true_eq] at hB
  obtain ⟨⟨⟨⟨⟨hsel, hn⟩, hs⟩, hc⟩, hi⟩, hlex⟩ := hB
  have hn' : n < l.length := by simpa using hn
  have htl : ((l.drop k).take (n - k)).length = n - k := by simp; omega
  have hdl : (l.drop n).length = l.toArray.size - n := by simp
  have H := headQ_lex (md := .any) (g := l.toArray.size - n) hsel hs hc hn ((l.drop k).take (n - k)) k listed a (fun j hj => by
    have hj' : j < n - k := by rw [htl] at hj; exact hj
    rw [List.getElem?_take_of_lt hj', List.getElem?_drop]
    simp) (by rw [htl]; omega) (inv_of hi) (by rw [htl]; exact hlex) h
  have := any_of_headQ (Q' := Q) (g := l.toArray.size - n) (fun listed a' w' hw' hL => by
    have := wpAny_of_seq (md := .any) (Q' := Q) (l.drop n) n listed a' w' (fun j => by simp [List.getElem?_drop]) (by rw [hdl]; exact hL.1) (hL.2 w' hw')
    rwa [hdl] at this) _ _ _ w hC H
  rw [htl, show n - k + (l.toArray.size - n) = f by simp; omega] at this
  exact this
/-- one that makes noughts of a size -/
def MadeR (w0 : World) (n : Nat) (v : Value) (W : World) : Prop := ∃ g, v = .slice (some ⟨g, 0, none⟩) n n ∧ IsB W (some ⟨g, 0, none⟩) n n (zeros n) ∧ w0.heap.size ≤ g
theorem MadeR.mono (w0 : World) (n : Nat) : Mono (MadeR w0 n) := fun v W W' ⟨g, h1, h2, h3⟩ hb => ⟨g, h1, h2.ab hb, h3⟩
theorem head_make {w0 : World} {A : Act → Prop} {o : Oper} {d : Tmp} (n : Nat) (hn : n ≤ 281474976710656) (hg : o.guard = none) (hd : o.dst = some d) (ho : o.op = .makeSlice 22 (.const (.int .i64 (n : Int))) (.const (.int .i64 (n : Int)))) : HeadOp Try.prog w0 A o d (MadeR w0 n) := by
  refine ⟨hg, hd, fun a W _ hb => ⟨_, W.alloc (.cells (bts (zeros n)) 5), ?_, ⟨W.heap.size, rfl, isB_whole (Bk.newAt _ (zeros n) rfl) (byt_zeros n) (zeros_len n) (by omega), hb.size⟩, hb.alloc hb.size _, (Below.refl _ _).alloc (Nat.le_refl _) _⟩⟩
  have := make_u8 n n (Nat.le_refl _) hn W
  unfold execOp
  simp only [ho, Act.eval, this, Sem.run_bind, Result.andThen_ok, Sem.run_pure]
/-- one that hands back what is known -/
def IsR (u : Value) (v : Value) (_ : World) : Prop := v = u
theorem IsR.mono (u : Value) : Mono (IsR u) := fun v W W' h _ => h
theorem head_value {P : Program} {w0 : World} {A : Act → Prop} {o : Oper} {d : Tmp} (u : Value) (hg : o.guard = none) (hd : o.dst = some d) (h : ∀ a W, A a → Below w0.heap.size w0 W → (execOp a.eval o).run P W = .ok (.value u) W) : HeadOp P w0 A o d (IsR u) :=
  ⟨hg, hd, fun a W ha hb => ⟨u, W, h a W ha hb, rfl, hb, Below.refl _ _⟩⟩
end Go.Proofs.Ytpofndciepoooaa
