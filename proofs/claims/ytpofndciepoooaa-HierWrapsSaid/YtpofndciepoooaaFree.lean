/-
  A REGION THAT DRAWS ITS ORDER, in whose head every operation has a contract of its own (it may make memory, it may be a call): walked once; of each slot just what its contract says is known behind it.
-/
import Derived.Test.YtpofndciepoooaaHeads
import Derived.Test.YtpofndciepoooaaCtF
namespace Go.Proofs.Ytpofndciepoooaa
open Go.RowKit
set_option linter.unusedVariables false

/-- alike but for some slots -/
def Agree (D : List Tmp) (a b : Act) : Prop := b.defers = a.defers ∧ b.tmps.size = a.tmps.size ∧ ∀ t : Nat, t ∉ D → b.tmps[t]? = a.tmps[t]?
theorem Agree.refl (D : List Tmp) (a : Act) : Agree D a a := ⟨rfl, rfl, fun _ _ => rfl⟩
theorem Agree.put {D : List Tmp} {a b : Act} (h : Agree D a b) {d : Tmp} (hd : d ∈ D) (v : Value) : Agree D a (b.put (some d) v) := by
  refine ⟨h.1, by simpa [Act.put] using h.2.1, fun t ht => ?_⟩
  have hne : d ≠ t := fun e => ht (by rw [← e]; exact hd)
  simp only [Act.put]
  rw [Array.getElem?_setIfInBounds_ne hne]
  exact h.2.2 t ht
theorem Agree.eval {D : List Tmp} {a b : Act} (h : Agree D a b) {t : Nat} (ht : t ∉ D) : b.eval (.tmp t) = a.eval (.tmp t) := by
  simp only [Act.eval, Array.getD_eq_getD_getElem?]
  rw [h.2.2 t ht]
theorem Agree.rebuild {a : Act} : ∀ (D : List Tmp) (b : Act), Agree D b a → a = D.foldl (fun x d => x.put (some d) (a.eval (.tmp d))) b
  | [], b, h => by
    cases a; cases b
    simp only [List.foldl_nil, Act.mk.injEq]
    refine ⟨?_, h.1⟩
    apply Array.ext_getElem?
    intro t
    exact h.2.2 t (by simp)
  | d :: D, b, h => by
    rw [List.foldl_cons]
    refine Agree.rebuild D _ ⟨h.1, by simpa [Act.put] using h.2.1, fun t ht => ?_⟩
    simp only [Act.put]
    by_cases e : d = t
    · subst e
      by_cases hs : d < b.tmps.size
      · rw [Array.getElem?_setIfInBounds_self_of_lt hs]
        have : d < a.tmps.size := by rw [h.2.1]; exact hs
        simp [Act.eval, this]
      · have hs' : b.tmps.size ≤ d := Nat.le_of_not_lt hs
        rw [Array.getElem?_eq_none (by rw [h.2.1]; exact hs'), Array.getElem?_eq_none (by simpa using hs')]
    · rw [Array.getElem?_setIfInBounds_ne e]
      exact h.2.2 t (by simp [ht, Ne.symm e])
section
variable {P : Program} {Q : Exit → Act → World → Prop}
/-- the block that a value points to -/
def blk : Value → Option Nat
  | .pointer (some a) => some a.block
  | .slice (some a) _ _ => some a.block
  | _ => none
/-- new memory -/
def Fresh (fr : Bool) (v : Value) (W W' : World) : Prop := fr = true → ∃ g, blk v = some g ∧ W.heap.size ≤ g ∧ g < W'.heap.size
theorem fresh_no (v : Value) (W W' : World) : Fresh false v W W' := fun h => by cases h
/-- what an operation of the head does -/
def Yields (P : Program) (o : Oper) (a : Act) (W : World) (fr : Bool) (R : Value → World → Prop) : Prop :=
  (∃ v W', (execOp a.eval o).run P W = .ok (.value v) W' ∧ R v W' ∧ Below W.heap.size W W' ∧ Fresh fr v W W') ∨
  (∃ f args, (execOp a.eval o).run P W = .ok (.enter f args) W ∧ Calls P f args W fun e W' => ∃ v, e = .returned v ∧ R v W' ∧ Below W.heap.size W W' ∧ Fresh fr v W W')
structure Head where
  dst : Tmp
  R : Value → World → Prop
  deps : List Nat
  fresh : Bool
/-- all that is so behind those that are listed -/
def FreeInv (hs : List Head) (a0 : Act) (w0 : World) (listed : Array Bool) (a : Act) (W : World) : Prop :=
  Agree (hs.map (·.dst)) a0 a ∧ Below w0.heap.size w0 W ∧ (∀ (i : Nat) (h : Head), hs[i]? = some h → listed.getD i false = true → h.R (a.eval (.tmp h.dst)) W) ∧
    (∀ (i : Nat) (h : Head), hs[i]? = some h → listed.getD i false = true → h.fresh = true → ∃ g, blk (a.eval (.tmp h.dst)) = some g ∧ w0.heap.size ≤ g ∧ g < W.heap.size) ∧
    (∀ (i j : Nat) (h k : Head), hs[i]? = some h → hs[j]? = some k → i ≠ j → listed.getD i false = true → listed.getD j false = true → h.fresh = true → k.fresh = true → blk (a.eval (.tmp h.dst)) ≠ blk (a.eval (.tmp k.dst)))
def freeB (ops : Array Oper) (n : Nat) (deps : Array (List Nat)) (g : Nat) : Nat → Array Bool → Bool
  | 0, listed => Region.seqB .any ops g n listed && (List.range n).all fun i => listed.getD i false
  | f + 1, listed => !(Region.ready .any ops listed).isEmpty && (Region.ready .any ops listed).all fun i =>
      decide (i < n) && decide (i < listed.size) && (deps.getD i []).all (fun j => decide (j < n) && listed.getD j false) && freeB ops n deps g f (listed.setIfInBounds i true)
theorem lt_of_some {hs : List Head} {i : Nat} {h : Head} (hi : hs[i]? = some h) : i < hs.length := by
  rcases Nat.lt_or_ge i hs.length with h' | h'
  · exact h'
  · rw [List.getElem?_eq_none h'] at hi; cases hi
theorem free_any {l : List Oper} {hs : List Head} {a0 : Act} {w0 : World} {g : Nat} (hg : (l.drop hs.length).length = g)
    (hdst : ∀ (i : Nat) (h : Head) (o : Oper), hs[i]? = some h → l[i]? = some o → o.guard = none ∧ o.dst = some h.dst) (hlen : hs.length ≤ l.length) (hin : ∀ h ∈ hs, h.dst < a0.tmps.size) (hdis : (hs.map (·.dst)).Nodup)
    (hm : ∀ h ∈ hs, Mono h.R)
    (hy : ∀ (i : Nat) (h : Head) (o : Oper), hs[i]? = some h → l[i]? = some o → ∀ a W, Agree (hs.map (·.dst)) a0 a → Below w0.heap.size w0 W → (∀ j ∈ h.deps, ∀ (hj : Head), hs[j]? = some hj → hj.R (a.eval (.tmp hj.dst)) W) → Yields P o a W h.fresh h.R)
    (hk : ∀ a W, Agree (hs.map (·.dst)) a0 a → Below w0.heap.size w0 W → (∀ (i : Nat) (h : Head), hs[i]? = some h → h.R (a.eval (.tmp h.dst)) W) → (∀ (i j : Nat) (h k : Head), hs[i]? = some h → hs[j]? = some k → i ≠ j → h.fresh = true → k.fresh = true → blk (a.eval (.tmp h.dst)) ≠ blk (a.eval (.tmp k.dst))) → wpList P l.toArray Q (l.drop hs.length) a W) :
    ∀ (f : Nat) (listed : Array Bool) (a : Act) (W : World), freeB l.toArray hs.length (hs.map (·.deps)).toArray g f listed = true → FreeInv hs a0 w0 listed a W → wpAny P .any l.toArray Q (f + g) listed a W
  | 0, listed, a, W, hB, hI => by
    simp only [freeB, Bool.and_eq_true, List.all_eq_true, List.mem_range] at hB
    rw [Nat.zero_add]
    have := wpAny_of_seq (md := .any) (Q' := Q) (P := P) (l.drop hs.length) hs.length listed a W (fun j => by simp [List.getElem?_drop]) (by rw [hg]; exact hB.1) (hk a W hI.1 hI.2.1 (fun i h hi => hI.2.2.1 i h hi (hB.2 i (lt_of_some hi))) (fun i j h k hi hj hij => hI.2.2.2.2 i j h k hi hj hij (hB.2 i (lt_of_some hi)) (hB.2 j (lt_of_some hj))))
    rwa [hg] at this
  | f + 1, listed, a, W, hB, hI => by
    simp only [freeB, Bool.and_eq_true, List.all_eq_true, decide_eq_true_eq, Bool.not_eq_true', List.isEmpty_eq_false_iff] at hB
    obtain ⟨hne, hall⟩ := hB
    rw [show f + 1 + g = (f + g) + 1 by omega]
    refine ⟨fun e => absurd e hne, fun i hi => ?_⟩
    obtain ⟨⟨⟨hin2, his⟩, hdep⟩, hrec⟩ := hall i hi
    have hil : i < l.length := by omega
    obtain ⟨h, hh⟩ : ∃ h, hs[i]? = some h := ⟨_, List.getElem?_eq_getElem hin2⟩
    obtain ⟨o, ho⟩ : ∃ o, l[i]? = some o := ⟨_, List.getElem?_eq_getElem hil⟩
    obtain ⟨hgd, hd⟩ := hdst i h o hh ho
    have hmem : h ∈ hs := List.mem_of_getElem? hh
    have hdep2 : ∀ j ∈ h.deps, ∀ (hj : Head), hs[j]? = some hj → hj.R (a.eval (.tmp hj.dst)) W := fun j hj hj' hjj => by
      have hd1 : ((hs.map (·.deps)).toArray.getD i []) = h.deps := by simp [hh]
      have := hdep j (by rw [hd1]; exact hj)
      exact hI.2.2.1 j hj' hjj this.2
    have hself : ∀ v, (a.put (some h.dst) v).eval (.tmp h.dst) = v := fun v => by
      have hs1 : h.dst < a.tmps.size := by rw [hI.1.2.1]; exact hin h hmem
      simp [Act.put, Act.eval, hs1]
    have hoth : ∀ v (j : Nat) (hj : Head), hs[j]? = some hj → j ≠ i → (a.put (some h.dst) v).eval (.tmp hj.dst) = a.eval (.tmp hj.dst) := fun v j hj hjj hij => by
      refine eval_put_ne (fun e => hij ?_) _ _
      have hjl := lt_of_some hjj
      have e1 : (hs.map (·.dst))[j]'(by simpa using hjl) = (hs.map (·.dst))[i]'(by simpa using hin2) := by
        rw [List.getElem?_eq_getElem hjl] at hjj
        rw [List.getElem?_eq_getElem hin2] at hh
        injection hjj with hjj
        injection hh with hh
        simp only [List.getElem_map, hjj, hh]
        exact e.symm
      exact (List.getElem_inj hdis).1 e1
    have hlis : ∀ (j : Nat), j ≠ i → (listed.setIfInBounds i true).getD j false = true → listed.getD j false = true := fun j hij h' => by
      rw [Array.getD_eq_getD_getElem?, Array.getElem?_setIfInBounds_ne (Ne.symm hij)] at h'
      rw [Array.getD_eq_getD_getElem?]
      exact h'
    have key : ∀ v W', h.R v W' → Below W.heap.size W W' → Fresh h.fresh v W W' → wpAny P .any l.toArray Q (f + g) (listed.setIfInBounds i true) (a.put (some h.dst) v) W' := fun v W' hR hb hfr => by
      refine free_any hg hdst hlen hin hdis hm hy hk f _ _ _ hrec ⟨hI.1.put (List.mem_map.2 ⟨h, hmem, rfl⟩) v, below_tr hI.2.1 hb hI.2.1.size, fun j hj hjj hlj => ?_, fun j hj hjj hlj hf => ?_, fun j k hj hk' hjj hkk hjk hlj hlk hfj hfk => ?_⟩
      · by_cases hij : j = i
        · subst hij
          rw [hh] at hjj
          injection hjj with hjj
          subst hjj
          rw [hself]
          exact hR
        · rw [hoth v j hj hjj hij]
          exact hm hj (List.mem_of_getElem? hjj) _ _ _ (hI.2.2.1 j hj hjj (hlis j hij hlj)) hb
      · by_cases hij : j = i
        · subst hij
          rw [hh] at hjj
          injection hjj with hjj
          subst hjj
          rw [hself]
          obtain ⟨g', e1, e2, e3⟩ := hfr hf
          exact ⟨g', e1, Nat.le_trans hI.2.1.size e2, e3⟩
        · rw [hoth v j hj hjj hij]
          obtain ⟨g', e1, e2, e3⟩ := hI.2.2.2.1 j hj hjj (hlis j hij hlj) hf
          exact ⟨g', e1, e2, Nat.lt_of_lt_of_le e3 hb.size⟩
      · by_cases hij : j = i
        · subst hij
          have hki : k ≠ j := Ne.symm hjk
          rw [hh] at hjj
          injection hjj with hjj
          subst hjj
          rw [hself, hoth v k hk' hkk hki]
          obtain ⟨g', e1, e2, e3⟩ := hfr hfj
          obtain ⟨g2, f1, f2, f3⟩ := hI.2.2.2.1 k hk' hkk (hlis k hki hlk) hfk
          rw [e1, f1]
          intro e
          injection e with e
          omega
        · by_cases hik : k = i
          · subst hik
            rw [hh] at hkk
            injection hkk with hkk
            subst hkk
            rw [hself, hoth v j hj hjj hij]
            obtain ⟨g', e1, e2, e3⟩ := hfr hfk
            obtain ⟨g2, f1, f2, f3⟩ := hI.2.2.2.1 j hj hjj (hlis j hij hlj) hfj
            rw [e1, f1]
            intro e
            injection e with e
            omega
          · rw [hoth v j hj hjj hij, hoth v k hk' hkk hik]
            exact hI.2.2.2.2 j k hj hk' hjj hkk hjk (hlis j hij hlj) (hlis k hik hlk) hfj hfk
    unfold wpOp
    rw [show l.toArray[i]? = some o by simpa using ho]
    simp only
    rw [if_pos (by simp [Region.wanted, hgd])]
    refine .inl ?_
    unfold Oper.wp
    rcases hy i h o hh ho a W hI.1 hI.2.1 hdep2 with ⟨v, W', hr, hR, hb, hfr⟩ | ⟨fn, args, hr, hc⟩
    · rw [hr]
      simp only [Oper.upon, hd]
      exact key v W' hR hb hfr
    · rw [hr]
      simp only [Oper.upon, hd]
      exact hc.mono fun e W' ⟨v, he, hR, hb, hfr⟩ => by subst he; exact key v W' hR hb hfr
/-- THE LAW -/
theorem wp_free {id : Nat} {a0 : Act} {w0 : World} {l : List Oper} (hs : List Head) (hmx : P.follows .mixedOrders = true) (hlen : hs.length ≤ l.length)
    (hB : freeB l.toArray hs.length (hs.map (·.deps)).toArray (l.length - hs.length) hs.length (Array.replicate l.toArray.size false) = true)
    (hdst : ∀ (i : Nat) (h : Head) (o : Oper), hs[i]? = some h → l[i]? = some o → o.guard = none ∧ o.dst = some h.dst) (hin : ∀ h ∈ hs, h.dst < a0.tmps.size) (hdis : (hs.map (·.dst)).Nodup) (hm : ∀ h ∈ hs, Mono h.R)
    (hy : ∀ (i : Nat) (h : Head) (o : Oper), hs[i]? = some h → l[i]? = some o → ∀ a W, Agree (hs.map (·.dst)) a0 a → Below w0.heap.size w0 W → (∀ j ∈ h.deps, ∀ (hj : Head), hs[j]? = some hj → hj.R (a.eval (.tmp hj.dst)) W) → Yields P o a W h.fresh h.R)
    (hk : ∀ (vs : Tmp → Value) W, (∀ (i : Nat) (h : Head), hs[i]? = some h → h.R (vs h.dst) W) → (∀ (i j : Nat) (h k : Head), hs[i]? = some h → hs[j]? = some k → i ≠ j → h.fresh = true → k.fresh = true → blk (vs h.dst) ≠ blk (vs k.dst)) → Below w0.heap.size w0 W → wpList P l.toArray Q (l.drop hs.length) ((hs.map (·.dst)).foldl (fun x d => x.put (some d) (vs d)) a0) W) :
    (Code.region id l.toArray true).wp P Q a0 w0 := by
  refine wp_region_any hmx ?_
  have h1 := free_any (P := P) (Q := Q) (l := l) (hs := hs) (a0 := a0) (w0 := w0) (g := l.length - hs.length) (by simp) hdst hlen hin hdis hm hy
    (fun a W hA hb hR hF => by
      have := hk (fun d => a.eval (.tmp d)) W hR hF hb
      rw [← Agree.rebuild _ _ hA] at this
      exact this) hs.length (Array.replicate l.toArray.size false) a0 { w0 with drawn := w0.drawn + 1 } hB
    ⟨Agree.refl _ _, (Below.refl _ w0).drew, fun i h hi hl => (by rw [getD_replicate_false] at hl; cases hl), fun i h hi hl => (by rw [getD_replicate_false] at hl; cases hl), fun i j h k hi hj hij hl => (by rw [getD_replicate_false] at hl; cases hl)⟩
  have hsz : l.toArray.size = hs.length + (l.length - hs.length) := by rw [List.size_toArray]; omega
  have e : wpAny P .any l.toArray Q l.toArray.size = wpAny P .any l.toArray Q (hs.length + (l.length - hs.length)) := congrArg _ hsz
  rw [e]
  exact h1
/-- one head after the other -/
def AllHeads (p : Head → Oper → Prop) : List Head → List Oper → Prop
  | [], _ => True
  | h :: hs, o :: ol => p h o ∧ AllHeads p hs ol
  | _ :: _, [] => False
theorem AllHeads.at {p : Head → Oper → Prop} : ∀ {hs : List Head} {l : List Oper}, AllHeads p hs l → ∀ (i : Nat) (h : Head) (o : Oper), hs[i]? = some h → l[i]? = some o → p h o
  | [], _, _, i, h, o, hh, _ => by simp at hh
  | h0 :: hs, o0 :: l, ha, 0, h, o, hh, ho => by
    simp only [List.getElem?_cons_zero, Option.some.injEq] at hh ho
    rw [← hh, ← ho]
    exact ha.1
  | h0 :: hs, o0 :: l, ha, i + 1, h, o, hh, ho => AllHeads.at ha.2 i h o (by simpa using hh) (by simpa using ho)
  | _ :: _, [], ha, _, _, _, _, _ => ha.elim
/-- what is asked of one -/
def Head.ok (P : Program) (hs : List Head) (a0 : Act) (w0 : World) (h : Head) (o : Oper) : Prop :=
  o.guard = none ∧ o.dst = some h.dst ∧ Mono h.R ∧ (∀ a W, Agree (hs.map (·.dst)) a0 a → Below w0.heap.size w0 W → (∀ j ∈ h.deps, ∀ (hj : Head), hs[j]? = some hj → hj.R (a.eval (.tmp hj.dst)) W) → Yields P o a W h.fresh h.R)
theorem wp_free2 {id : Nat} {a0 : Act} {w0 : World} {l : List Oper} (hs : List Head) (hmx : P.follows .mixedOrders = true)
    (hB : freeB l.toArray hs.length (hs.map (·.deps)).toArray (l.length - hs.length) hs.length (Array.replicate l.toArray.size false) = true)
    (hlen : decide (hs.length ≤ l.length) = true) (hin : (hs.map (·.dst)).all (fun d => decide (d < a0.tmps.size)) = true) (hdis : decide ((hs.map (·.dst)).Nodup) = true)
    (hok : AllHeads (Head.ok P hs a0 w0) hs l)
    (hk : ∀ (vs : Tmp → Value) W, (∀ (i : Nat) (h : Head), hs[i]? = some h → h.R (vs h.dst) W) → (∀ (i j : Nat) (h k : Head), hs[i]? = some h → hs[j]? = some k → i ≠ j → h.fresh = true → k.fresh = true → blk (vs h.dst) ≠ blk (vs k.dst)) → Below w0.heap.size w0 W → wpList P l.toArray Q (l.drop hs.length) ((hs.map (·.dst)).foldl (fun x d => x.put (some d) (vs d)) a0) W) :
    (Code.region id l.toArray true).wp P Q a0 w0 := by
  have hlen' := of_decide_eq_true hlen
  have hmem : ∀ h ∈ hs, ∃ (i : Nat) (o : Oper), hs[i]? = some h ∧ l[i]? = some o := fun h hh => by
    obtain ⟨i, hi, rfl⟩ := List.getElem_of_mem hh
    exact ⟨i, _, List.getElem?_eq_getElem hi, List.getElem?_eq_getElem (by omega)⟩
  refine wp_free hs hmx hlen' hB (fun i h o hi ho => ⟨(hok.at i h o hi ho).1, (hok.at i h o hi ho).2.1⟩) (fun h hh => ?_) (of_decide_eq_true hdis) (fun h hh => ?_) (fun i h o hi ho => (hok.at i h o hi ho).2.2.2) hk
  · have := List.all_eq_true.1 hin h.dst (List.mem_map.2 ⟨h, hh, rfl⟩)
    exact of_decide_eq_true this
  · obtain ⟨i, o, hi, ho⟩ := hmem h hh
    exact (hok.at i h o hi ho).2.2.1
theorem yields_value {o : Oper} {a : Act} {W : World} {R : Value → World → Prop} (v : Value) (h : (execOp a.eval o).run P W = .ok (.value v) W) (hR : R v W) : Yields P o a W false R := .inl ⟨v, W, h, hR, Below.refl _ _, fresh_no _ _ _⟩
theorem yields_call {o : Oper} {a : Act} {W : World} {R : Value → World → Prop} (f : FuncId) (args : Array Value) (h : (execOp a.eval o).run P W = .ok (.enter f args) W) (hc : Calls P f args W fun e W' => ∃ v, e = .returned v ∧ R v W' ∧ Below W.heap.size W W') : Yields P o a W false R :=
  .inr ⟨f, args, h, hc.mono fun e W' ⟨v, h1, h2, h3⟩ => ⟨v, h1, h2, h3, fresh_no _ _ _⟩⟩
end
end Go.Proofs.Ytpofndciepoooaa
