/-
  KIT OF OURS: a drawn region's head (as Wid3), behind which the rest is gone on with order by order.
  KIT OF OURS: a drawn region's head (as Wid3), each operation of which may write into old blocks of its own.
  KIT OF OURS: a drawn region's head (as Wid3), whose operations' steps, and what they lean on, are said by the user.
-/
import Derived.Test.YtakgebbeknfplaaGreatWid3
namespace Go.Proofs.YtakgebbeknfplaaGreat
open Go.RowKit
set_option linter.unusedVariables false

section
variable {P : Program} {Q : Exit → Act → World → Prop}
/-- every one behind the first of the rest waits for one of the rest -/
def chain2B (ops : Array Oper) (n : Nat) : Bool := (List.range ops.size).all fun t => decide (t ≤ n) || (List.range t).any fun j => decide (n ≤ j) && Region.waitsFor .any ops t j
theorem tail_waits2 {ops : Array Oper} {n : Nat} {listed : Array Bool} (hs : Region.sinkB .any ops n = true) (hc : chain2B ops n = true) (hn : n < ops.size) (inv : HeadInv .any ops n listed) :
    ∀ (d i : Nat), n - i = d → i < n → listed.getD i true = false → ∀ t, n ≤ t → t ∉ Region.ready .any ops listed := by
  intro d
  induction d using Nat.strongRecOn with
  | _ d ih =>
    intro i hd hi hun t ht hr
    obtain ⟨_, ot, hot, hall⟩ := mem_ready.1 hr
    have htlt : t < ops.size := (Array.getElem?_eq_some_iff.1 hot).1
    by_cases htn : t = n
    · subst htn
      have h1 := List.all_eq_true.1 hs i (List.mem_range.2 hi)
      obtain ⟨j, hj, h2⟩ := List.any_eq_true.1 h1
      simp only [Bool.and_eq_true, decide_eq_true_eq] at h2
      obtain ⟨oj, hoj, e, he, hb, hon⟩ := Region.waitsFor_spec h2.2
      have hjl : j ≤ t := by have := List.mem_range.1 hj; omega
      by_cases hjt : j = t
      · subst hjt
        have : oj = ot := Option.some.inj (hoj.symm.trans hot)
        subst this
        have h3 := hall e he hb
        rw [hon] at h3
        rw [getD_both hun] at h3
        cases h3
      · have hju : listed.getD j true = false := by
          have hjs : j < listed.size := by rw [inv.size]; omega
          refine getD_in hjs ?_
          cases hlj : listed.getD j false with
          | false => rfl
          | true =>
            have h3 := inv.closed j oj hoj hlj e he hb
            rw [hon, getD_both hun] at h3
            cases h3
        exact ih (t - j) (by omega) j rfl (by omega) hju t (Nat.le_refl _) hr
    · have h1 := List.all_eq_true.1 hc t (List.mem_range.2 htlt)
      simp only [Bool.or_eq_true, decide_eq_true_eq, List.any_eq_true, Bool.and_eq_true] at h1
      rcases h1 with h1 | ⟨j, hj, hnj, hw⟩
      · omega
      · obtain ⟨oj, hoj, e, he, hb, hon⟩ := Region.waitsFor_spec hw
        have : oj = ot := Option.some.inj (hoj.symm.trans hot)
        subst this
        have h3 := hall e he hb
        rw [hon] at h3
        have hjt := List.mem_range.1 hj
        have h4 := inv.tail j hnj (by omega)
        rw [getD_both h4] at h3
        cases h3
def wideAB (ops : Array Oper) (n : Nat) (deps : Array (List Nat)) : Bool :=
  decide (n < ops.size) && Region.sinkB .any ops n && chain2B ops n &&
    (List.range n).all (fun j => (deps.getD j []).all fun d => decide (d < n) && Region.waitsFor .any ops j d) &&
    (List.range n).all (fun j => match ops[j]? with
      | some o => o.after.toList.all fun e => !Region.binds .any e || decide (e.on < j)
      | none => false)
structure WideA (ops : Array Oper) (n : Nat) (deps : Array (List Nat)) : Prop where
  lt : n < ops.size
  sink : Region.sinkB .any ops n = true
  chain : chain2B ops n = true
  dep : ∀ j, j < n → ∀ d ∈ deps.getD j [], d < n ∧ Region.waitsFor .any ops j d = true
  low : ∀ j, j < n → ∃ o, ops[j]? = some o ∧ ∀ e ∈ o.after, Region.binds .any e = true → e.on < j
theorem wideA_of {ops : Array Oper} {n : Nat} {deps : Array (List Nat)} (h : wideAB ops n deps = true) : WideA ops n deps := by
  simp only [wideAB, Bool.and_eq_true, decide_eq_true_eq, List.all_eq_true, List.mem_range] at h
  obtain ⟨⟨⟨⟨h1, h2⟩, h3⟩, h5⟩, h6⟩ := h
  refine ⟨h1, h2, h3, fun j hj d hd => h5 j hj d hd, fun j hj => ?_⟩
  have := h6 j hj
  cases ho : ops[j]? with
  | none => rw [ho] at this; cases this
  | some o =>
    rw [ho] at this
    refine ⟨o, rfl, fun e he hb => ?_⟩
    simp only [List.all_eq_true] at this
    have := this e (by simpa using he)
    simpa [hb] using this
theorem wideA_any {l : List Oper} {hs : List Head} {a0 : Act} {w0 : World} {g : Nat} (hW : wideAB l.toArray hs.length (hs.map (·.deps)).toArray = true) (hg : (l.drop hs.length).length = g)
    (hdst : ∀ (i : Nat) (h : Head) (o : Oper), hs[i]? = some h → l[i]? = some o → o.dst = some h.dst) (hlen : hs.length ≤ l.length) (hin : ∀ h ∈ hs, h.dst < a0.tmps.size) (hdis : (hs.map (·.dst)).Nodup)
    (hm : ∀ h ∈ hs, Mono h.R)
    (hy : ∀ (i : Nat) (h : Head) (o : Oper), hs[i]? = some h → l[i]? = some o → ∀ a W, Agree (hs.map (·.dst)) a0 a → Below w0.heap.size w0 W → (∀ j ∈ h.deps, ∀ (hj : Head), hs[j]? = some hj → hj.R (a.eval (.tmp hj.dst)) W) → Takes P l.toArray o a W h.fresh h.R)
    (hk : ∀ a W, Agree (hs.map (·.dst)) a0 a → Below w0.heap.size w0 W → (∀ (i : Nat) (h : Head), hs[i]? = some h → h.R (a.eval (.tmp h.dst)) W) → (∀ (i j : Nat) (h k : Head), hs[i]? = some h → hs[j]? = some k → i ≠ j → h.fresh = true → k.fresh = true → blk (a.eval (.tmp h.dst)) ≠ blk (a.eval (.tmp k.dst))) → wpAny P .any l.toArray Q g (allL l.toArray.size hs.length) a W) :
    ∀ (f : Nat) (listed : Array Bool) (a : Act) (W : World), HeadInv .any l.toArray hs.length listed → unl listed hs.length = f → FreeInv hs a0 w0 listed a W → wpAny P .any l.toArray Q (f + g) listed a W
  | 0, listed, a, W, inv, hu, hI => by
    have hWd := wideA_of hW
    have hall := unl_zero _ hu
    rw [Nat.zero_add, all_listed inv hWd.lt hall]
    exact hk a W hI.1 hI.2.1 (fun i h hi => hI.2.2.1 i h hi (hall i (lt_of_some hi))) (fun i j h k hi hj hij => hI.2.2.2.2 i j h k hi hj hij (hall i (lt_of_some hi)) (hall j (lt_of_some hj)))
  | f + 1, listed, a, W, inv, hu, hI => by
    have hWd := wideA_of hW
    obtain ⟨i0, hi0, hun0, hlow0⟩ := unl_pos (listed := listed) hs.length (by omega)
    have hsz := inv.size
    have hun0' : listed.getD i0 true = false := getD_in (by have := hWd.lt; omega) hun0
    rw [show f + 1 + g = (f + g) + 1 by omega]
    have hne : i0 ∈ Region.ready .any l.toArray listed := by
      obtain ⟨o, ho, hb⟩ := hWd.low i0 hi0
      exact mem_ready.2 ⟨hun0', o, ho, fun e he hbd => hlow0 _ (hb e he hbd)⟩
    refine ⟨fun e => (by rw [e] at hne; cases hne), fun i hi => ?_⟩
    have hin2 : i < hs.length := by
      rcases Nat.lt_or_ge i hs.length with h | h
      · exact h
      · exact absurd hi (tail_waits2 hWd.sink hWd.chain hWd.lt inv _ i0 rfl hi0 hun0' i h)
    have hdep : ∀ d ∈ ((hs.map (·.deps)).toArray.getD i []), listed.getD d false = true := fun d hd => by
      obtain ⟨_, oi, hoi, hall⟩ := mem_ready.1 hi
      obtain ⟨oj, hoj, e, he, hb, hon⟩ := Region.waitsFor_spec (hWd.dep i hin2 d hd).2
      have : oj = oi := Option.some.inj (hoj.symm.trans hoi)
      subst this
      rw [← hon]
      exact hall e he hb
    have hrec : unl (listed.setIfInBounds i true) hs.length = f := by
      have := unl_set (listed := listed) (i := i) (by have := hWd.lt; omega) (getD_both (mem_ready.1 hi).1) hs.length hin2
      omega
    have hil : i < l.length := by omega
    obtain ⟨h, hh⟩ : ∃ h, hs[i]? = some h := ⟨_, List.getElem?_eq_getElem hin2⟩
    obtain ⟨o, ho⟩ : ∃ o, l[i]? = some o := ⟨_, List.getElem?_eq_getElem hil⟩
    have hd := hdst i h o hh ho
    have hmem : h ∈ hs := List.mem_of_getElem? hh
    have hdep2 : ∀ j ∈ h.deps, ∀ (hj : Head), hs[j]? = some hj → hj.R (a.eval (.tmp hj.dst)) W := fun j hj hj' hjj => by
      have hd1 : ((hs.map (·.deps)).toArray.getD i []) = h.deps := by simp [hh]
      exact hI.2.2.1 j hj' hjj (hdep j (by rw [hd1]; exact hj))
    have hself : ∀ v, (a.put (some h.dst) v).eval (.tmp h.dst) = v := fun v => by
      have hs1 : h.dst < a.tmps.size := by rw [hI.1.2.1]; exact hin h hmem
      simp [Act.put, Act.eval, hs1]
    have hoth : ∀ v (j : Nat) (hj : Head), hs[j]? = some hj → j ≠ i → (a.put (some h.dst) v).eval (.tmp hj.dst) = a.eval (.tmp hj.dst) := fun v j hj hjj hij => by
      refine eval_put_ne (fun e => hij ?_) _ _
      have hjl := lt_of_some hjj
      have e1 : (hs.map (·.dst))[j]'(by simpa using hjl) = (hs.map (·.dst))[i]'(by simpa using hin2) := by
        rw [List.getElem?_eq_getElem hjl] at hjj
        rw [List.getElem?_eq_getElem hin2] at hh
        injection hjj with hjj
        injection hh with hh
        simp only [List.getElem_map, hjj, hh]
        exact e.symm
      exact (List.getElem_inj hdis).1 e1
    have hlis : ∀ (j : Nat), j ≠ i → (listed.setIfInBounds i true).getD j false = true → listed.getD j false = true := fun j hij h' => by
      rw [Array.getD_eq_getD_getElem?, Array.getElem?_setIfInBounds_ne (Ne.symm hij)] at h'
      rw [Array.getD_eq_getD_getElem?]
      exact h'
    have key : ∀ v W', h.R v W' → Below W.heap.size W W' → Fresh h.fresh v W W' → wpAny P .any l.toArray Q (f + g) (listed.setIfInBounds i true) (a.put (some h.dst) v) W' := fun v W' hR hb hfr => by
      refine wideA_any hW hg hdst hlen hin hdis hm hy hk f _ _ _ (inv.set hi hin2) hrec ⟨hI.1.put (List.mem_map.2 ⟨h, hmem, rfl⟩) v, below_tr hI.2.1 hb hI.2.1.size, fun j hj hjj hlj => ?_, fun j hj hjj hlj hf => ?_, fun j k hj hk' hjj hkk hjk hlj hlk hfj hfk => ?_⟩
      · by_cases hij : j = i
        · subst hij
          rw [hh] at hjj
          injection hjj with hjj
          subst hjj
          rw [hself]
          exact hR
        · rw [hoth v j hj hjj hij]
          exact hm hj (List.mem_of_getElem? hjj) _ _ _ (hI.2.2.1 j hj hjj (hlis j hij hlj)) hb
      · by_cases hij : j = i
        · subst hij
          rw [hh] at hjj
          injection hjj with hjj
          subst hjj
          rw [hself]
          obtain ⟨g', e1, e2, e3⟩ := hfr hf
          exact ⟨g', e1, Nat.le_trans hI.2.1.size e2, e3⟩
        · rw [hoth v j hj hjj hij]
          obtain ⟨g', e1, e2, e3⟩ := hI.2.2.2.1 j hj hjj (hlis j hij hlj) hf
          exact ⟨g', e1, e2, Nat.lt_of_lt_of_le e3 hb.size⟩
      · by_cases hij : j = i
        · subst hij
          have hki : k ≠ j := Ne.symm hjk
          rw [hh] at hjj
          injection hjj with hjj
          subst hjj
          rw [hself, hoth v k hk' hkk hki]
          obtain ⟨g', e1, e2, e3⟩ := hfr hfj
          obtain ⟨g2, f1, f2, f3⟩ := hI.2.2.2.1 k hk' hkk (hlis k hki hlk) hfk
          rw [e1, f1]
          intro e
          injection e with e
          omega
        · by_cases hik : k = i
          · subst hik
            rw [hh] at hkk
            injection hkk with hkk
            subst hkk
            rw [hself, hoth v j hj hjj hij]
            obtain ⟨g', e1, e2, e3⟩ := hfr hfk
            obtain ⟨g2, f1, f2, f3⟩ := hI.2.2.2.1 j hj hjj (hlis j hij hlj) hfj
            rw [e1, f1]
            intro e
            injection e with e
            omega
          · rw [hoth v j hj hjj hij, hoth v k hk' hkk hik]
            exact hI.2.2.2.2 j k hj hk' hjj hkk hjk (hlis j hij hlj) (hlis k hik hlk) hfj hfk
    unfold wpOp
    rw [show l.toArray[i]? = some o by simpa using ho]
    simp only
    rcases hy i h o hh ho a W hI.1 hI.2.1 hdep2 with ⟨hwt, hyl⟩ | ⟨hwt, hR, hfr⟩
    · rw [if_pos hwt]
      refine .inl ?_
      unfold Oper.wp
      rcases hyl with ⟨v, W', hr, hR, hb, hfr⟩ | ⟨fn, args, hr, hc⟩
      · rw [hr]
        simp only [Oper.upon, hd]
        exact key v W' hR hb hfr
      · rw [hr]
        simp only [Oper.upon, hd]
        exact hc.mono fun e W' ⟨v, he, hR, hb, hfr⟩ => by subst he; exact key v W' hR hb hfr
    · rw [if_neg (by rw [hwt]; exact Bool.false_ne_true)]
      rw [hd]
      exact key undef W hR (Below.refl _ _) (by rw [hfr]; exact fresh_no _ _ _)
theorem wp_wideAa {id : Nat} {a0 : Act} {w0 : World} {l : List Oper} (hs : List Head) (hmx : P.follows .mixedOrders = true) (hlen : hs.length ≤ l.length)
    (hB : wideAB l.toArray hs.length (hs.map (·.deps)).toArray = true)
    (hdst : ∀ (i : Nat) (h : Head) (o : Oper), hs[i]? = some h → l[i]? = some o → o.dst = some h.dst) (hin : ∀ h ∈ hs, h.dst < a0.tmps.size) (hdis : (hs.map (·.dst)).Nodup) (hm : ∀ h ∈ hs, Mono h.R)
    (hy : ∀ (i : Nat) (h : Head) (o : Oper), hs[i]? = some h → l[i]? = some o → ∀ a W, Agree (hs.map (·.dst)) a0 a → Below w0.heap.size w0 W → (∀ j ∈ h.deps, ∀ (hj : Head), hs[j]? = some hj → hj.R (a.eval (.tmp hj.dst)) W) → Takes P l.toArray o a W h.fresh h.R)
    (hk : ∀ (vs : Tmp → Value) W, (∀ (i : Nat) (h : Head), hs[i]? = some h → h.R (vs h.dst) W) → (∀ (i j : Nat) (h k : Head), hs[i]? = some h → hs[j]? = some k → i ≠ j → h.fresh = true → k.fresh = true → blk (vs h.dst) ≠ blk (vs k.dst)) → Below w0.heap.size w0 W → wpAny P .any l.toArray Q (l.length - hs.length) (allL l.toArray.size hs.length) ((hs.map (·.dst)).foldl (fun x d => x.put (some d) (vs d)) a0) W) :
    (Code.region id l.toArray true).wp P Q a0 w0 := by
  refine wp_region_any hmx ?_
  have hinv : HeadInv .any l.toArray hs.length (Array.replicate l.toArray.size false) := ⟨by simp, fun j oj hj hl => (by rw [getD_replicate_false] at hl; cases hl), fun t ht ht' => getD_in (by simpa using ht') (getD_replicate_false _ _)⟩
  have hunl : ∀ n, unl (Array.replicate l.toArray.size false) n = n := fun n => by
    induction n with
    | zero => rfl
    | succ n ih => rw [unl, ih, getD_replicate_false]; simp
  have h1 := wideA_any (P := P) (Q := Q) (l := l) (hs := hs) (a0 := a0) (w0 := w0) (g := l.length - hs.length) hB (by simp) hdst hlen hin hdis hm hy
    (fun a W hA hb hR hF => by
      have := hk (fun d => a.eval (.tmp d)) W hR hF hb
      rw [← Agree.rebuild _ _ hA] at this
      exact this) hs.length (Array.replicate l.toArray.size false) a0 { w0 with drawn := w0.drawn + 1 } hinv (hunl _)
    ⟨Agree.refl _ _, (Below.refl _ w0).drew, fun i h hi hl => (by rw [getD_replicate_false] at hl; cases hl), fun i h hi hl => (by rw [getD_replicate_false] at hl; cases hl), fun i j h k hi hj hij hl => (by rw [getD_replicate_false] at hl; cases hl)⟩
  have hsz : l.toArray.size = hs.length + (l.length - hs.length) := by rw [List.size_toArray]; omega
  have e : wpAny P .any l.toArray Q l.toArray.size = wpAny P .any l.toArray Q (hs.length + (l.length - hs.length)) := congrArg _ hsz
  rw [e]
  exact h1
theorem wp_wideA {id : Nat} {a0 : Act} {w0 : World} {l : List Oper} (hs : List Head) (hmx : P.follows .mixedOrders = true)
    (hB : wideAB l.toArray hs.length (hs.map (·.deps)).toArray = true)
    (hlen : decide (hs.length ≤ l.length) = true) (hin : (hs.map (·.dst)).all (fun d => decide (d < a0.tmps.size)) = true) (hdis : decide ((hs.map (·.dst)).Nodup) = true)
    (hok : AllHeads (Head.ok3 P l.toArray hs a0 w0) hs l)
    (hk : ∀ (vs : Tmp → Value) W, (∀ (i : Nat) (h : Head), hs[i]? = some h → h.R (vs h.dst) W) → (∀ (i j : Nat) (h k : Head), hs[i]? = some h → hs[j]? = some k → i ≠ j → h.fresh = true → k.fresh = true → blk (vs h.dst) ≠ blk (vs k.dst)) → Below w0.heap.size w0 W → wpAny P .any l.toArray Q (l.length - hs.length) (allL l.toArray.size hs.length) ((hs.map (·.dst)).foldl (fun x d => x.put (some d) (vs d)) a0) W) :
    (Code.region id l.toArray true).wp P Q a0 w0 := by
  have hlen' := of_decide_eq_true hlen
  have hmem : ∀ h ∈ hs, ∃ (i : Nat) (o : Oper), hs[i]? = some h ∧ l[i]? = some o := fun h hh => by
    obtain ⟨i, hi, rfl⟩ := List.getElem_of_mem hh
    exact ⟨i, _, List.getElem?_eq_getElem hi, List.getElem?_eq_getElem (by omega)⟩
  refine wp_wideAa hs hmx hlen' hB (fun i h o hi ho => (hok.at i h o hi ho).1) (fun h hh => ?_) (of_decide_eq_true hdis) (fun h hh => ?_) (fun i h o hi ho => (hok.at i h o hi ho).2.2) hk
  · have := List.all_eq_true.1 hin h.dst (List.mem_map.2 ⟨h, hh, rfl⟩)
    exact of_decide_eq_true this
  · obtain ⟨i, o, hi, ho⟩ := hmem h hh
    exact (hok.at i h o hi ho).2.1
end
end Go.Proofs.YtakgebbeknfplaaGreat

namespace Go.Proofs.YtakgebbeknfplaaGreat
open Go.RowKit
set_option linter.unusedVariables false

section
variable {P : Program} {Q : Exit → Act → World → Prop}
/-- what was there is as it was, but for the blocks of F -/
structure Fr (w w' : World) (F : Nat → Prop) : Prop where
  os : w'.os = w.os
  tape : w'.tape = w.tape
  output : w'.output = w.output
  size : w.heap.size ≤ w'.heap.size
  block : ∀ k, k < w.heap.size → ¬ F k → w'.heap[k]? = w.heap[k]?
theorem Fr.of {w w' : World} (hb : Below w.heap.size w w') (F : Nat → Prop) : Fr w w' F := ⟨hb.os, hb.tape, hb.output, hb.size, fun i hi _ => hb.block i hi⟩
theorem Fr.tr {a b c : World} {F : Nat → Prop} (h : Fr a b F) (k : Fr b c F) : Fr a c F := ⟨k.os.trans h.os, k.tape.trans h.tape, k.output.trans h.output, Nat.le_trans h.size k.size, fun i hi hn => (k.block i (Nat.lt_of_lt_of_le hi h.size) hn).trans (h.block i hi hn)⟩
theorem Fr.imp {w w' : World} {F G : Nat → Prop} (h : Fr w w' F) (hi : ∀ k, F k → G k) : Fr w w' G := ⟨h.os, h.tape, h.output, h.size, fun k hk hn => h.block k hk fun hf => hn (hi k hf)⟩
theorem Fr.grown {w w' : World} {row : Option Nat} (h : w.grownBy w' row) : Fr w w' (fun k => row = some k) := ⟨h.os, h.tape, h.output, h.size, fun k hk hn => h.block k hk fun e => hn e.symm⟩
theorem Fr.below {w w' : World} {F : Nat → Prop} {B : Nat} {a : World} (h : Fr w w' F) (hF : ∀ k, F k → B ≤ k) (hb : Below B a w) (hs : B ≤ w.heap.size) : Below B a w' :=
  hb.trans ⟨h.os, h.tape, h.output, h.size, fun k hk => h.block k (by omega) fun hf => by have := hF k hf; omega⟩
def othF (F : Nat → Nat → Prop) (i k : Nat) : Prop := ∃ j, j ≠ i ∧ F j k
def allF (F : Nat → Nat → Prop) (k : Nat) : Prop := ∃ j, F j k
theorem Fr.all {w w' : World} {F : Nat → Nat → Prop} {i : Nat} (h : Fr w w' (othF F i)) : Fr w w' (allF F) := h.imp fun k ⟨j, _, hj⟩ => ⟨j, hj⟩
def Inv5 (hs : List Head) (a0 : Act) (w0 : World) (F : Nat → Nat → Prop) (listed : Array Bool) (a : Act) (W : World) : Prop :=
  Agree (hs.map (·.dst)) a0 a ∧ Fr w0 W (allF F) ∧ (∀ j, listed.getD j false = false → Fr w0 W (othF F j)) ∧ ∀ (i : Nat) (h : Head), hs[i]? = some h → listed.getD i false = true → h.R (a.eval (.tmp h.dst)) W
/-- what one does to its own blocks -/
def Yields5 (P : Program) (o : Oper) (a : Act) (W : World) (F : Nat → Prop) (R : Value → World → Prop) : Prop :=
  (∃ v W', (execOp a.eval o).run P W = .ok (.value v) W' ∧ R v W' ∧ Fr W W' F) ∨ (∃ f args, (execOp a.eval o).run P W = .ok (.enter f args) W ∧ Calls P f args W fun e W' => ∃ v, e = .returned v ∧ R v W' ∧ Fr W W' F)
theorem Yields.to5 {o : Oper} {a : Act} {W : World} {fr : Bool} {R : Value → World → Prop} (h : Yields P o a W fr R) (F : Nat → Prop) : Yields5 P o a W F R := by
  rcases h with ⟨v, W', h1, h2, h3, _⟩ | ⟨f, args, h1, h2⟩
  · exact .inl ⟨v, W', h1, h2, Fr.of h3 F⟩
  · exact .inr ⟨f, args, h1, h2.mono fun e W' ⟨v, he, hR, hb, _⟩ => ⟨v, he, hR, Fr.of hb F⟩⟩
def Takes5 (P : Program) (ops : Array Oper) (o : Oper) (a : Act) (W : World) (F : Nat → Prop) (R : Value → World → Prop) : Prop :=
  (Region.wanted o (yielded ops a.tmps) = true ∧ Yields5 P o a W F R) ∨ (Region.wanted o (yielded ops a.tmps) = false ∧ R undef W)
theorem Takes.to5 {ops : Array Oper} {o : Oper} {a : Act} {W : World} {fr : Bool} {R : Value → World → Prop} (h : Takes P ops o a W fr R) (F : Nat → Prop) : Takes5 P ops o a W F R := by
  rcases h with ⟨h1, h2⟩ | ⟨h1, h2, _⟩
  · exact .inl ⟨h1, h2.to5 F⟩
  · exact .inr ⟨h1, h2⟩
theorem takes5_plain {ops : Array Oper} {o : Oper} {a : Act} {W : World} {F : Nat → Prop} {R : Value → World → Prop} (hg : o.guard = none) (h : Yields5 P o a W F R) : Takes5 P ops o a W F R := .inl ⟨by simp [Region.wanted, hg], h⟩
theorem takes5_on {ops : Array Oper} {o oi : Oper} {a : Act} {W : World} {F : Nat → Prop} {R : Value → World → Prop} {i : Nat} {d : Tmp} {b : Bool} (hg : o.guard = some (i, b)) (ho : ops[i]? = some oi) (hd : oi.dst = some d) (he : a.eval (.tmp d) = .bool b) (h : Yields5 P o a W F R) : Takes5 P ops o a W F R :=
  .inl ⟨by simp [Region.wanted, hg, yielded_eval ho hd he], h⟩
def MonoF (F : Nat → Prop) (R : Value → World → Prop) : Prop := ∀ v W W', R v W → Fr W W' F → R v W'
theorem IsR.monoF (F : Nat → Prop) (u : Value) : MonoF F (IsR u) := fun v W W' h _ => h
theorem AnyR'.monoF (F : Nat → Prop) : MonoF F (fun _ _ => True) := fun _ _ _ _ _ => trivial
theorem wide5_any {l : List Oper} {hs : List Head} {a0 : Act} {w0 : World} {g : Nat} {F : Nat → Nat → Prop} (hW : wideB l.toArray hs.length (hs.map (·.deps)).toArray = true) (hg : (l.drop hs.length).length = g)
    (hdst : ∀ (i : Nat) (h : Head) (o : Oper), hs[i]? = some h → l[i]? = some o → o.dst = some h.dst) (hlen : hs.length ≤ l.length) (hin : ∀ h ∈ hs, h.dst < a0.tmps.size) (hdis : (hs.map (·.dst)).Nodup)
    (hm : ∀ (i : Nat) (h : Head), hs[i]? = some h → MonoF (othF F i) h.R)
    (hy : ∀ (i : Nat) (h : Head) (o : Oper), hs[i]? = some h → l[i]? = some o → ∀ a W, Agree (hs.map (·.dst)) a0 a → Fr w0 W (othF F i) → (∀ j ∈ h.deps, ∀ (hj : Head), hs[j]? = some hj → hj.R (a.eval (.tmp hj.dst)) W) → Takes5 P l.toArray o a W (F i) h.R)
    (hk : ∀ a W, Agree (hs.map (·.dst)) a0 a → Fr w0 W (allF F) → (∀ (i : Nat) (h : Head), hs[i]? = some h → h.R (a.eval (.tmp h.dst)) W) → wpList P l.toArray Q (l.drop hs.length) a W) :
    ∀ (f : Nat) (listed : Array Bool) (a : Act) (W : World), HeadInv .any l.toArray hs.length listed → unl listed hs.length = f → Inv5 hs a0 w0 F listed a W → wpAny P .any l.toArray Q (f + g) listed a W
  | 0, listed, a, W, inv, hu, hI => by
    have hWd := wide_of hW
    have hall := unl_zero _ hu
    rw [Nat.zero_add]
    have hsq := hWd.seq
    rw [← all_listed inv hWd.lt hall, show l.toArray.size - hs.length = g by rw [← hg]; simp] at hsq
    have := wpAny_of_seq (md := .any) (Q' := Q) (P := P) (l.drop hs.length) hs.length listed a W (fun j => by simp [List.getElem?_drop]) (by rw [hg]; exact hsq) (hk a W hI.1 hI.2.1 (fun i h hi => hI.2.2.2 i h hi (hall i (lt_of_some hi))))
    rwa [hg] at this
  | f + 1, listed, a, W, inv, hu, hI => by
    have hWd := wide_of hW
    obtain ⟨i0, hi0, hun0, hlow0⟩ := unl_pos (listed := listed) hs.length (by omega)
    have hsz := inv.size
    have hun0' : listed.getD i0 true = false := getD_in (by have := hWd.lt; omega) hun0
    rw [show f + 1 + g = (f + g) + 1 by omega]
    have hne : i0 ∈ Region.ready .any l.toArray listed := by
      obtain ⟨o, ho, hb⟩ := hWd.low i0 hi0
      exact mem_ready.2 ⟨hun0', o, ho, fun e he hbd => hlow0 _ (hb e he hbd)⟩
    refine ⟨fun e => (by rw [e] at hne; cases hne), fun i hi => ?_⟩
    have hin2 : i < hs.length := by
      rcases Nat.lt_or_ge i hs.length with h | h
      · exact h
      · exact absurd hi (tail_waits hWd.sink hWd.chain hWd.lt inv _ i0 rfl hi0 hun0' i h)
    have hdep : ∀ d ∈ ((hs.map (·.deps)).toArray.getD i []), listed.getD d false = true := fun d hd => by
      obtain ⟨_, oi, hoi, hall⟩ := mem_ready.1 hi
      obtain ⟨oj, hoj, e, he, hb, hon⟩ := Region.waitsFor_spec (hWd.dep i hin2 d hd).2
      have : oj = oi := Option.some.inj (hoj.symm.trans hoi)
      subst this
      rw [← hon]
      exact hall e he hb
    have hrec : unl (listed.setIfInBounds i true) hs.length = f := by
      have := unl_set (listed := listed) (i := i) (by have := hWd.lt; omega) (getD_both (mem_ready.1 hi).1) hs.length hin2
      omega
    have hiun : listed.getD i false = false := getD_both (mem_ready.1 hi).1
    have hil : i < l.length := by omega
    obtain ⟨h, hh⟩ : ∃ h, hs[i]? = some h := ⟨_, List.getElem?_eq_getElem hin2⟩
    obtain ⟨o, ho⟩ : ∃ o, l[i]? = some o := ⟨_, List.getElem?_eq_getElem hil⟩
    have hd := hdst i h o hh ho
    have hmem : h ∈ hs := List.mem_of_getElem? hh
    have hdep2 : ∀ j ∈ h.deps, ∀ (hj : Head), hs[j]? = some hj → hj.R (a.eval (.tmp hj.dst)) W := fun j hj hj' hjj => by
      have hd1 : ((hs.map (·.deps)).toArray.getD i []) = h.deps := by simp [hh]
      exact hI.2.2.2 j hj' hjj (hdep j (by rw [hd1]; exact hj))
    have hself : ∀ v, (a.put (some h.dst) v).eval (.tmp h.dst) = v := fun v => by
      have hs1 : h.dst < a.tmps.size := by rw [hI.1.2.1]; exact hin h hmem
      simp [Act.put, Act.eval, hs1]
    have hoth : ∀ v (j : Nat) (hj : Head), hs[j]? = some hj → j ≠ i → (a.put (some h.dst) v).eval (.tmp hj.dst) = a.eval (.tmp hj.dst) := fun v j hj hjj hij => by
      refine eval_put_ne (fun e => hij ?_) _ _
      have hjl := lt_of_some hjj
      have e1 : (hs.map (·.dst))[j]'(by simpa using hjl) = (hs.map (·.dst))[i]'(by simpa using hin2) := by
        rw [List.getElem?_eq_getElem hjl] at hjj
        rw [List.getElem?_eq_getElem hin2] at hh
        injection hjj with hjj
        injection hh with hh
        simp only [List.getElem_map, hjj, hh]
        exact e.symm
      exact (List.getElem_inj hdis).1 e1
    have hlis : ∀ (j : Nat), j ≠ i → (listed.setIfInBounds i true).getD j false = listed.getD j false := fun j hij => by
      rw [Array.getD_eq_getD_getElem?, Array.getElem?_setIfInBounds_ne (Ne.symm hij), Array.getD_eq_getD_getElem?]
    have key : ∀ v W', h.R v W' → Fr W W' (F i) → wpAny P .any l.toArray Q (f + g) (listed.setIfInBounds i true) (a.put (some h.dst) v) W' := fun v W' hR hfr => by
      refine wide5_any hW hg hdst hlen hin hdis hm hy hk f _ _ _ (inv.set hi hin2) hrec ⟨hI.1.put (List.mem_map.2 ⟨h, hmem, rfl⟩) v, hI.2.1.tr (hfr.imp fun k hk => ⟨i, hk⟩), fun j hj => ?_, fun j hj hjj hlj => ?_⟩
      · have hji : j ≠ i := fun e => by
          subst e
          rw [Array.getD_eq_getD_getElem?, Array.getElem?_setIfInBounds_self_of_lt (by have := hWd.lt; omega)] at hj
          cases hj
        rw [hlis j hji] at hj
        exact (hI.2.2.1 j hj).tr (hfr.imp fun k hk => ⟨i, Ne.symm hji, hk⟩)
      · by_cases hij : j = i
        · subst hij
          rw [hh] at hjj
          injection hjj with hjj
          subst hjj
          rw [hself]
          exact hR
        · rw [hoth v j hj hjj hij]
          rw [hlis j hij] at hlj
          exact hm j hj hjj _ _ _ (hI.2.2.2 j hj hjj hlj) (hfr.imp fun k hk => ⟨i, Ne.symm hij, hk⟩)
    unfold wpOp
    rw [show l.toArray[i]? = some o by simpa using ho]
    simp only
    rcases hy i h o hh ho a W hI.1 (hI.2.2.1 i hiun) hdep2 with ⟨hwt, hyl⟩ | ⟨hwt, hR⟩
    · rw [if_pos hwt]
      refine .inl ?_
      unfold Oper.wp
      rcases hyl with ⟨v, W', hr, hR, hb⟩ | ⟨fn, args, hr, hc⟩
      · rw [hr]
        simp only [Oper.upon, hd]
        exact key v W' hR hb
      · rw [hr]
        simp only [Oper.upon, hd]
        exact hc.mono fun e W' ⟨v, he, hR, hb⟩ => by subst he; exact key v W' hR hb
    · rw [if_neg (by rw [hwt]; exact Bool.false_ne_true)]
      rw [hd]
      exact key undef W hR (Fr.of (Below.refl _ _) _)
/-- what is asked of one -/
def Head.ok5 (P : Program) (ops : Array Oper) (hs : List Head) (a0 : Act) (w0 : World) (F : Nat → Nat → Prop) (i : Nat) (h : Head) (o : Oper) : Prop :=
  o.dst = some h.dst ∧ MonoF (othF F i) h.R ∧ ∀ a W, Agree (hs.map (·.dst)) a0 a → Fr w0 W (othF F i) → (∀ j ∈ h.deps, ∀ (hj : Head), hs[j]? = some hj → hj.R (a.eval (.tmp hj.dst)) W) → Takes5 P ops o a W (F i) h.R
def All5 (q : Nat → Head → Oper → Prop) : Nat → List Head → List Oper → Prop
  | _, [], _ => True
  | k, h :: hs, o :: l => q k h o ∧ All5 q (k + 1) hs l
  | _, _ :: _, [] => False
theorem All5.at {q : Nat → Head → Oper → Prop} : ∀ {k : Nat} {hs : List Head} {l : List Oper}, All5 q k hs l → ∀ (i : Nat) (h : Head) (o : Oper), hs[i]? = some h → l[i]? = some o → q (k + i) h o
  | k, h :: hs, o :: l, hA, 0, h', o', e1, e2 => by
    simp only [List.getElem?_cons_zero, Option.some.injEq] at e1 e2
    subst e1 e2
    exact hA.1
  | k, h :: hs, o :: l, hA, i + 1, h', o', e1, e2 => by
    have := All5.at hA.2 i h' o' (by simpa using e1) (by simpa using e2)
    rw [show k + (i + 1) = k + 1 + i by omega]
    exact this
  | _, [], _, _, i, _, _, e1, _ => by simp at e1
  | _, _ :: _, [], hA, _, _, _, _, _ => hA.elim
theorem wp_wide5 {id : Nat} {a0 : Act} {w0 : World} {l : List Oper} (F : Nat → Nat → Prop) (hs : List Head) (hmx : P.follows .mixedOrders = true)
    (hB : wideB l.toArray hs.length (hs.map (·.deps)).toArray = true)
    (hlen : decide (hs.length ≤ l.length) = true) (hin : (hs.map (·.dst)).all (fun d => decide (d < a0.tmps.size)) = true) (hdis : decide ((hs.map (·.dst)).Nodup) = true)
    (hok : All5 (Head.ok5 P l.toArray hs a0 w0 F) 0 hs l)
    (hk : ∀ (vs : Tmp → Value) W, (∀ (i : Nat) (h : Head), hs[i]? = some h → h.R (vs h.dst) W) → Fr w0 W (allF F) → wpList P l.toArray Q (l.drop hs.length) ((hs.map (·.dst)).foldl (fun x d => x.put (some d) (vs d)) a0) W) :
    (Code.region id l.toArray true).wp P Q a0 w0 := by
  have hlen' := of_decide_eq_true hlen
  have hat : ∀ (i : Nat) (h : Head) (o : Oper), hs[i]? = some h → l[i]? = some o → Head.ok5 P l.toArray hs a0 w0 F i h o := fun i h o hi ho => by
    have := hok.at i h o hi ho
    rwa [Nat.zero_add] at this
  have hunl : ∀ n, unl (Array.replicate l.toArray.size false) n = n := fun n => by
    induction n with
    | zero => rfl
    | succ n ih => rw [unl, ih, getD_replicate_false]; simp
  refine wp_region_any hmx ?_
  have hinv : HeadInv .any l.toArray hs.length (Array.replicate l.toArray.size false) := ⟨by simp, fun j oj hj hl => (by rw [getD_replicate_false] at hl; cases hl), fun t ht ht' => getD_in (by simpa using ht') (getD_replicate_false _ _)⟩
  have h1 := wide5_any (P := P) (Q := Q) (l := l) (hs := hs) (a0 := a0) (w0 := w0) (g := l.length - hs.length) (F := F) hB (by simp)
    (fun i h o hi ho => (hat i h o hi ho).1) hlen'
    (fun h hh => by
      have := List.all_eq_true.1 hin h.dst (List.mem_map.2 ⟨h, hh, rfl⟩)
      exact of_decide_eq_true this) (of_decide_eq_true hdis)
    (fun i h hi => by
      have hil := lt_of_some hi
      exact (hat i h _ hi (List.getElem?_eq_getElem (by omega))).2.1)
    (fun i h o hi ho => (hat i h o hi ho).2.2)
    (fun a W hA hgr hR => by
      have := hk (fun d => a.eval (.tmp d)) W hR hgr
      rw [← Agree.rebuild _ _ hA] at this
      exact this) hs.length (Array.replicate l.toArray.size false) a0 { w0 with drawn := w0.drawn + 1 } hinv (hunl _)
    ⟨Agree.refl _ _, Fr.of (Below.refl _ w0).drew _, fun j _ => Fr.of (Below.refl _ w0).drew _, fun i h hi hl => (by rw [getD_replicate_false] at hl; cases hl)⟩
  have hsz : l.toArray.size = hs.length + (l.length - hs.length) := by rw [List.size_toArray]; omega
  have e : wpAny P .any l.toArray Q l.toArray.size = wpAny P .any l.toArray Q (hs.length + (l.length - hs.length)) := congrArg _ hsz
  rw [e]
  exact h1
end
end Go.Proofs.YtakgebbeknfplaaGreat

namespace Go.Proofs.YtakgebbeknfplaaGreat
open Go.RowKit
set_option linter.unusedVariables false

section
variable {P : Program} {Q : Exit → Act → World → Prop}
def Inv6 (hs : List Head) (a0 : Act) (G : World → Prop) (Pre : Nat → World → Prop) (listed : Array Bool) (a : Act) (W : World) : Prop :=
  Agree (hs.map (·.dst)) a0 a ∧ G W ∧ (∀ j, listed.getD j false = false → Pre j W) ∧ ∀ (i : Nat) (h : Head), hs[i]? = some h → listed.getD i false = true → h.R (a.eval (.tmp h.dst)) W
def Yields6 (P : Program) (o : Oper) (a : Act) (W : World) (S : World → World → Prop) (R : Value → World → Prop) : Prop :=
  (∃ v W', (execOp a.eval o).run P W = .ok (.value v) W' ∧ R v W' ∧ S W W') ∨ (∃ f args, (execOp a.eval o).run P W = .ok (.enter f args) W ∧ Calls P f args W fun e W' => ∃ v, e = .returned v ∧ R v W' ∧ S W W')
theorem Yields.to6 {o : Oper} {a : Act} {W : World} {fr : Bool} {R : Value → World → Prop} {S : World → World → Prop} (h : Yields P o a W fr R) (hs : ∀ W', Below W.heap.size W W' → S W W') : Yields6 P o a W S R := by
  rcases h with ⟨v, W', h1, h2, h3, _⟩ | ⟨f, args, h1, h2⟩
  · exact .inl ⟨v, W', h1, h2, hs _ h3⟩
  · exact .inr ⟨f, args, h1, h2.mono fun e W' ⟨v, he, hR, hb, _⟩ => ⟨v, he, hR, hs _ hb⟩⟩
def Takes6 (P : Program) (ops : Array Oper) (o : Oper) (a : Act) (W : World) (S : World → World → Prop) (R : Value → World → Prop) : Prop :=
  (Region.wanted o (yielded ops a.tmps) = true ∧ Yields6 P o a W S R) ∨ (Region.wanted o (yielded ops a.tmps) = false ∧ R undef W)
theorem Takes.to6 {ops : Array Oper} {o : Oper} {a : Act} {W : World} {fr : Bool} {R : Value → World → Prop} {S : World → World → Prop} (h : Takes P ops o a W fr R) (hs : ∀ W', Below W.heap.size W W' → S W W') : Takes6 P ops o a W S R := by
  rcases h with ⟨h1, h2⟩ | ⟨h1, h2, _⟩
  · exact .inl ⟨h1, h2.to6 hs⟩
  · exact .inr ⟨h1, h2⟩
theorem takes6_on {ops : Array Oper} {o oi : Oper} {a : Act} {W : World} {S : World → World → Prop} {R : Value → World → Prop} {i : Nat} {d : Tmp} {b : Bool} (hg : o.guard = some (i, b)) (ho : ops[i]? = some oi) (hd : oi.dst = some d) (he : a.eval (.tmp d) = .bool b) (h : Yields6 P o a W S R) : Takes6 P ops o a W S R :=
  .inl ⟨by simp [Region.wanted, hg, yielded_eval ho hd he], h⟩
theorem wide6_any {l : List Oper} {hs : List Head} {a0 : Act} {g : Nat} {G : World → Prop} {Pre : Nat → World → Prop} {S : Nat → World → World → Prop} (hW : wideB l.toArray hs.length (hs.map (·.deps)).toArray = true) (hg : (l.drop hs.length).length = g)
    (hdst : ∀ (i : Nat) (h : Head) (o : Oper), hs[i]? = some h → l[i]? = some o → o.dst = some h.dst) (hlen : hs.length ≤ l.length) (hin : ∀ h ∈ hs, h.dst < a0.tmps.size) (hdis : (hs.map (·.dst)).Nodup)
    (hS : ∀ i j, i ≠ j → ∀ W W', S i W W' → Pre j W → Pre j W') (hG : ∀ i W W', S i W W' → G W → G W') (h0 : ∀ i W, S i W W)
    (hm : ∀ (i : Nat) (h : Head), hs[i]? = some h → ∀ j, j ≠ i → ∀ v W W', h.R v W → S j W W' → h.R v W')
    (hy : ∀ (i : Nat) (h : Head) (o : Oper), hs[i]? = some h → l[i]? = some o → ∀ a W, Agree (hs.map (·.dst)) a0 a → G W → Pre i W → (∀ j ∈ h.deps, ∀ (hj : Head), hs[j]? = some hj → hj.R (a.eval (.tmp hj.dst)) W) → Takes6 P l.toArray o a W (S i) h.R)
    (hk : ∀ a W, Agree (hs.map (·.dst)) a0 a → G W → (∀ (i : Nat) (h : Head), hs[i]? = some h → h.R (a.eval (.tmp h.dst)) W) → wpList P l.toArray Q (l.drop hs.length) a W) :
    ∀ (f : Nat) (listed : Array Bool) (a : Act) (W : World), HeadInv .any l.toArray hs.length listed → unl listed hs.length = f → Inv6 hs a0 G Pre listed a W → wpAny P .any l.toArray Q (f + g) listed a W
  | 0, listed, a, W, inv, hu, hI => by
    have hWd := wide_of hW
    have hall := unl_zero _ hu
    rw [Nat.zero_add]
    have hsq := hWd.seq
    rw [← all_listed inv hWd.lt hall, show l.toArray.size - hs.length = g by rw [← hg]; simp] at hsq
    have := wpAny_of_seq (md := .any) (Q' := Q) (P := P) (l.drop hs.length) hs.length listed a W (fun j => by simp [List.getElem?_drop]) (by rw [hg]; exact hsq) (hk a W hI.1 hI.2.1 (fun i h hi => hI.2.2.2 i h hi (hall i (lt_of_some hi))))
    rwa [hg] at this
  | f + 1, listed, a, W, inv, hu, hI => by
    have hWd := wide_of hW
    obtain ⟨i0, hi0, hun0, hlow0⟩ := unl_pos (listed := listed) hs.length (by omega)
    have hsz := inv.size
    have hun0' : listed.getD i0 true = false := getD_in (by have := hWd.lt; omega) hun0
    rw [show f + 1 + g = (f + g) + 1 by omega]
    have hne : i0 ∈ Region.ready .any l.toArray listed := by
      obtain ⟨o, ho, hb⟩ := hWd.low i0 hi0
      exact mem_ready.2 ⟨hun0', o, ho, fun e he hbd => hlow0 _ (hb e he hbd)⟩
    refine ⟨fun e => (by rw [e] at hne; cases hne), fun i hi => ?_⟩
    have hin2 : i < hs.length := by
      rcases Nat.lt_or_ge i hs.length with h | h
      · exact h
      · exact absurd hi (tail_waits hWd.sink hWd.chain hWd.lt inv _ i0 rfl hi0 hun0' i h)
    have hdep : ∀ d ∈ ((hs.map (·.deps)).toArray.getD i []), listed.getD d false = true := fun d hd => by
      obtain ⟨_, oi, hoi, hall⟩ := mem_ready.1 hi
      obtain ⟨oj, hoj, e, he, hb, hon⟩ := Region.waitsFor_spec (hWd.dep i hin2 d hd).2
      have : oj = oi := Option.some.inj (hoj.symm.trans hoi)
      subst this
      rw [← hon]
      exact hall e he hb
    have hrec : unl (listed.setIfInBounds i true) hs.length = f := by
      have := unl_set (listed := listed) (i := i) (by have := hWd.lt; omega) (getD_both (mem_ready.1 hi).1) hs.length hin2
      omega
    have hiun : listed.getD i false = false := getD_both (mem_ready.1 hi).1
    have hil : i < l.length := by omega
    obtain ⟨h, hh⟩ : ∃ h, hs[i]? = some h := ⟨_, List.getElem?_eq_getElem hin2⟩
    obtain ⟨o, ho⟩ : ∃ o, l[i]? = some o := ⟨_, List.getElem?_eq_getElem hil⟩
    have hd := hdst i h o hh ho
    have hmem : h ∈ hs := List.mem_of_getElem? hh
    have hdep2 : ∀ j ∈ h.deps, ∀ (hj : Head), hs[j]? = some hj → hj.R (a.eval (.tmp hj.dst)) W := fun j hj hj' hjj => by
      have hd1 : ((hs.map (·.deps)).toArray.getD i []) = h.deps := by simp [hh]
      exact hI.2.2.2 j hj' hjj (hdep j (by rw [hd1]; exact hj))
    have hself : ∀ v, (a.put (some h.dst) v).eval (.tmp h.dst) = v := fun v => by
      have hs1 : h.dst < a.tmps.size := by rw [hI.1.2.1]; exact hin h hmem
      simp [Act.put, Act.eval, hs1]
    have hoth : ∀ v (j : Nat) (hj : Head), hs[j]? = some hj → j ≠ i → (a.put (some h.dst) v).eval (.tmp hj.dst) = a.eval (.tmp hj.dst) := fun v j hj hjj hij => by
      refine eval_put_ne (fun e => hij ?_) _ _
      have hjl := lt_of_some hjj
      have e1 : (hs.map (·.dst))[j]'(by simpa using hjl) = (hs.map (·.dst))[i]'(by simpa using hin2) := by
        rw [List.getElem?_eq_getElem hjl] at hjj
        rw [List.getElem?_eq_getElem hin2] at hh
        injection hjj with hjj
        injection hh with hh
        simp only [List.getElem_map, hjj, hh]
        exact e.symm
      exact (List.getElem_inj hdis).1 e1
    have hlis : ∀ (j : Nat), j ≠ i → (listed.setIfInBounds i true).getD j false = listed.getD j false := fun j hij => by
      rw [Array.getD_eq_getD_getElem?, Array.getElem?_setIfInBounds_ne (Ne.symm hij), Array.getD_eq_getD_getElem?]
    have key : ∀ v W', h.R v W' → S i W W' → wpAny P .any l.toArray Q (f + g) (listed.setIfInBounds i true) (a.put (some h.dst) v) W' := fun v W' hR hfr => by
      refine wide6_any hW hg hdst hlen hin hdis hS hG h0 hm hy hk f _ _ _ (inv.set hi hin2) hrec ⟨hI.1.put (List.mem_map.2 ⟨h, hmem, rfl⟩) v, hG i _ _ hfr hI.2.1, fun j hj => ?_, fun j hj hjj hlj => ?_⟩
      · have hji : j ≠ i := fun e => by
          subst e
          rw [Array.getD_eq_getD_getElem?, Array.getElem?_setIfInBounds_self_of_lt (by have := hWd.lt; omega)] at hj
          cases hj
        rw [hlis j hji] at hj
        exact hS i j (Ne.symm hji) _ _ hfr (hI.2.2.1 j hj)
      · by_cases hij : j = i
        · subst hij
          rw [hh] at hjj
          injection hjj with hjj
          subst hjj
          rw [hself]
          exact hR
        · rw [hoth v j hj hjj hij]
          rw [hlis j hij] at hlj
          exact hm j hj hjj i (Ne.symm hij) _ _ _ (hI.2.2.2 j hj hjj hlj) hfr
    unfold wpOp
    rw [show l.toArray[i]? = some o by simpa using ho]
    simp only
    rcases hy i h o hh ho a W hI.1 hI.2.1 (hI.2.2.1 i hiun) hdep2 with ⟨hwt, hyl⟩ | ⟨hwt, hR⟩
    · rw [if_pos hwt]
      refine .inl ?_
      unfold Oper.wp
      rcases hyl with ⟨v, W', hr, hR, hb⟩ | ⟨fn, args, hr, hc⟩
      · rw [hr]
        simp only [Oper.upon, hd]
        exact key v W' hR hb
      · rw [hr]
        simp only [Oper.upon, hd]
        exact hc.mono fun e W' ⟨v, he, hR, hb⟩ => by subst he; exact key v W' hR hb
    · rw [if_neg (by rw [hwt]; exact Bool.false_ne_true)]
      rw [hd]
      exact key undef W hR (h0 i W)
/-- what is asked of one -/
def Head.ok6 (P : Program) (ops : Array Oper) (hs : List Head) (a0 : Act) (G : World → Prop) (Pre : Nat → World → Prop) (S : Nat → World → World → Prop) (i : Nat) (h : Head) (o : Oper) : Prop :=
  o.dst = some h.dst ∧ (∀ j, j ≠ i → ∀ v W W', h.R v W → S j W W' → h.R v W') ∧ ∀ a W, Agree (hs.map (·.dst)) a0 a → G W → Pre i W → (∀ j ∈ h.deps, ∀ (hj : Head), hs[j]? = some hj → hj.R (a.eval (.tmp hj.dst)) W) → Takes6 P ops o a W (S i) h.R
theorem wp_wide6 {id : Nat} {a0 : Act} {w0 : World} {l : List Oper} (G : World → Prop) (Pre : Nat → World → Prop) (S : Nat → World → World → Prop) (hs : List Head) (hmx : P.follows .mixedOrders = true)
    (hB : wideB l.toArray hs.length (hs.map (·.deps)).toArray = true)
    (hlen : decide (hs.length ≤ l.length) = true) (hin : (hs.map (·.dst)).all (fun d => decide (d < a0.tmps.size)) = true) (hdis : decide ((hs.map (·.dst)).Nodup) = true)
    (hS : ∀ i j, i ≠ j → ∀ W W', S i W W' → Pre j W → Pre j W') (hG : ∀ i W W', S i W W' → G W → G W') (h0 : ∀ i W, S i W W) (hp0 : ∀ j, Pre j { w0 with drawn := w0.drawn + 1 }) (hg0 : G { w0 with drawn := w0.drawn + 1 })
    (hok : All5 (Head.ok6 P l.toArray hs a0 G Pre S) 0 hs l)
    (hk : ∀ (vs : Tmp → Value) W, (∀ (i : Nat) (h : Head), hs[i]? = some h → h.R (vs h.dst) W) → G W → wpList P l.toArray Q (l.drop hs.length) ((hs.map (·.dst)).foldl (fun x d => x.put (some d) (vs d)) a0) W) :
    (Code.region id l.toArray true).wp P Q a0 w0 := by
  have hlen' := of_decide_eq_true hlen
  have hat : ∀ (i : Nat) (h : Head) (o : Oper), hs[i]? = some h → l[i]? = some o → Head.ok6 P l.toArray hs a0 G Pre S i h o := fun i h o hi ho => by
    have := hok.at i h o hi ho
    rwa [Nat.zero_add] at this
  have hunl : ∀ n, unl (Array.replicate l.toArray.size false) n = n := fun n => by
    induction n with
    | zero => rfl
    | succ n ih => rw [unl, ih, getD_replicate_false]; simp
  refine wp_region_any hmx ?_
  have hinv : HeadInv .any l.toArray hs.length (Array.replicate l.toArray.size false) := ⟨by simp, fun j oj hj hl => (by rw [getD_replicate_false] at hl; cases hl), fun t ht ht' => getD_in (by simpa using ht') (getD_replicate_false _ _)⟩
  have h1 := wide6_any (P := P) (Q := Q) (l := l) (hs := hs) (a0 := a0) (g := l.length - hs.length) (G := G) (Pre := Pre) (S := S) hB (by simp)
    (fun i h o hi ho => (hat i h o hi ho).1) hlen'
    (fun h hh => by
      have := List.all_eq_true.1 hin h.dst (List.mem_map.2 ⟨h, hh, rfl⟩)
      exact of_decide_eq_true this) (of_decide_eq_true hdis) hS hG h0
    (fun i h hi => by
      have hil := lt_of_some hi
      exact (hat i h _ hi (List.getElem?_eq_getElem (by omega))).2.1)
    (fun i h o hi ho => (hat i h o hi ho).2.2)
    (fun a W hA hgr hR => by
      have := hk (fun d => a.eval (.tmp d)) W hR hgr
      rw [← Agree.rebuild _ _ hA] at this
      exact this) hs.length (Array.replicate l.toArray.size false) a0 { w0 with drawn := w0.drawn + 1 } hinv (hunl _)
    ⟨Agree.refl _ _, hg0, fun j _ => hp0 j, fun i h hi hl => (by rw [getD_replicate_false] at hl; cases hl)⟩
  have hsz : l.toArray.size = hs.length + (l.length - hs.length) := by rw [List.size_toArray]; omega
  have e : wpAny P .any l.toArray Q l.toArray.size = wpAny P .any l.toArray Q (hs.length + (l.length - hs.length)) := congrArg _ hsz
  rw [e]
  exact h1
end
end Go.Proofs.YtakgebbeknfplaaGreat
