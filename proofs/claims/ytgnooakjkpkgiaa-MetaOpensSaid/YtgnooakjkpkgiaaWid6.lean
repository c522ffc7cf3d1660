/-
  KIT OF OURS: a drawn region's head (as Wid3), whose operations' steps, and what they lean on, are said by the user.
-/
import Derived.Test.YtgnooakjkpkgiaaWid5
namespace Go.Proofs.Ytgnooakjkpkgiaa
open Go.RowKit
set_option linter.unusedVariables false

section
variable {P : Program} {Q : Exit → Act → World → Prop}
def Inv6 (hs : List Head) (a0 : Act) (G : World → Prop) (Pre : Nat → World → Prop) (listed : Array Bool) (a : Act) (W : World) : Prop :=
  Agree (hs.map (·.dst)) a0 a ∧ G W ∧ (∀ j, listed.getD j false = false → Pre j W) ∧ ∀ (i : Nat) (h : Head), hs[i]? = some h → listed.getD i false = true → h.R (a.eval (.tmp h.dst)) W
def Yields6 (P : Program) (o : Oper) (a : Act) (W : World) (S : World → World → Prop) (R : Value → World → Prop) : Prop :=
  (∃ v W', (execOp a.eval o).run P W = .ok (.value v) W' ∧ R v W' ∧ S W W') ∨ (∃ f args, (execOp a.eval o).run P W = .ok (.enter f args) W ∧ Calls P f args W fun e W' => ∃ v, e = .returned v ∧ R v W' ∧ S W W')
theorem Yields.to6 {o : Oper} {a : Act} {W : World} {fr : Bool} {R : Value → World → Prop} {S : World → World → Prop} (h : Yields P o a W fr R) (hs : ∀ W', Below W.heap.size W W' → S W W') : Yields6 P o a W S R := by
  rcases h with ⟨v, W', h1, h2, h3, _⟩ | ⟨f, args, h1, h2⟩
  · exact .inl ⟨v, W', h1, h2, hs _ h3⟩
  · exact .inr ⟨f, args, h1, h2.mono fun e W' ⟨v, he, hR, hb, _⟩ => ⟨v, he, hR, hs _ hb⟩⟩
def Takes6 (P : Program) (ops : Array Oper) (o : Oper) (a : Act) (W : World) (S : World → World → Prop) (R : Value → World → Prop) : Prop :=
  (Region.wanted o (yielded ops a.tmps) = true ∧ Yields6 P o a W S R) ∨ (Region.wanted o (yielded ops a.tmps) = false ∧ R undef W)
theorem Takes.to6 {ops : Array Oper} {o : Oper} {a : Act} {W : World} {fr : Bool} {R : Value → World → Prop} {S : World → World → Prop} (h : Takes P ops o a W fr R) (hs : ∀ W', Below W.heap.size W W' → S W W') : Takes6 P ops o a W S R := by
  rcases h with ⟨h1, h2⟩ | ⟨h1, h2, _⟩
  · exact .inl ⟨h1, h2.to6 hs⟩
  · exact .inr ⟨h1, h2⟩
theorem takes6_on {ops : Array Oper} {o oi : Oper} {a : Act} {W : World} {S : World → World → Prop} {R : Value → World → Prop} {i : Nat} {d : Tmp} {b : Bool} (hg : o.guard = some (i, b)) (ho : ops[i]? = some oi) (hd : oi.dst = some d) (he : a.eval (.tmp d) = .bool b) (h : Yields6 P o a W S R) : Takes6 P ops o a W S R :=
  .inl ⟨by simp [Region.wanted, hg, yielded_eval ho hd he], h⟩
theorem wide6_any {l : List Oper} {hs : List Head} {a0 : Act} {g : Nat} {G : World → Prop} {Pre : Nat → World → Prop} {S : Nat → World → World → Prop} (hW : wideB l.toArray hs.length (hs.map (·.deps)).toArray = true) (hg : (l.drop hs.length).length = g)
    (hdst : ∀ (i : Nat) (h : Head) (o : Oper), hs[i]? = some h → l[i]? = some o → o.dst = some h.dst) (hlen : hs.length ≤ l.length) (hin : ∀ h ∈ hs, h.dst < a0.tmps.size) (hdis : (hs.map (·.dst)).Nodup)
    (hS : ∀ i j, i ≠ j → ∀ W W', S i W W' → Pre j W → Pre j W') (hG : ∀ i W W', S i W W' → G W → G W') (h0 : ∀ i W, S i W W)
    (hm : ∀ (i : Nat) (h : Head), hs[i]? = some h → ∀ j, j ≠ i → ∀ v W W', h.R v W → S j W W' → h.R v W')
    (hy : ∀ (i : Nat) (h : Head) (o : Oper), hs[i]? = some h → l[i]? = some o → ∀ a W, Agree (hs.map (·.dst)) a0 a → G W → Pre i W → (∀ j ∈ h.deps, ∀ (hj : Head), hs[j]? = some hj → hj.R (a.eval (.tmp hj.dst)) W) → Takes6 P l.toArray o a W (S i) h.R)
    (hk : ∀ a W, Agree (hs.map (·.dst)) a0 a → G W → (∀ (i : Nat) (h : Head), hs[i]? = some h → h.R (a.eval (.tmp h.dst)) W) → wpList P l.toArray Q (l.drop hs.length) a W) :
    ∀ (f : Nat) (listed : Array Bool) (a : Act) (W : World), HeadInv .any l.toArray hs.length listed → unl listed hs.length = f → Inv6 hs a0 G Pre listed a W → wpAny P .any l.toArray Q (f + g) listed a W
  | 0, listed, a, W, inv, hu, hI => by
    have hWd := wide_of hW
    have hall := unl_zero _ hu
    rw [Nat.zero_add]
    have hsq := hWd.seq
    rw [← all_listed inv hWd.lt hall, show l.toArray.size - hs.length = g by rw [← hg]; simp] at hsq
    have := wpAny_of_seq (md := .any) (Q' := Q) (P := P) (l.drop hs.length) hs.length listed a W (fun j => by simp [List.getElem?_drop]) (by rw [hg]; exact hsq) (hk a W hI.1 hI.2.1 (fun i h hi => hI.2.2.2 i h hi (hall i (lt_of_some hi))))
    rwa [hg] at this
  | f + 1, listed, a, W, inv, hu, hI => by
    have hWd := wide_of hW
    obtain ⟨i0, hi0, hun0, hlow0⟩ := unl_pos (listed := listed) hs.length (by omega)
    have hsz := inv.size
    have hun0' : listed.getD i0 true = false := getD_in (by have := hWd.lt; omega) hun0
    rw [show f + 1 + g = (f + g) + 1 by omega]
    have hne : i0 ∈ Region.ready .any l.toArray listed := by
      obtain ⟨o, ho, hb⟩ := hWd.low i0 hi0
      exact mem_ready.2 ⟨hun0', o, ho, fun e he hbd => hlow0 _ (hb e he hbd)⟩
    refine ⟨fun e => (by rw [e] at hne; cases hne), fun i hi => ?_⟩
    have hin2 : i < hs.length := by
      rcases Nat.lt_or_ge i hs.length with h | h
      · exact h
      · exact absurd hi (tail_waits hWd.sink hWd.chain hWd.lt inv _ i0 rfl hi0 hun0' i h)
    have hdep : ∀ d ∈ ((hs.map (·.deps)).toArray.getD i []), listed.getD d false = true := fun d hd => by
      obtain ⟨_, oi, hoi, hall⟩ := mem_ready.1 hi
      obtain ⟨oj, hoj, e, he, hb, hon⟩ := Region.waitsFor_spec (hWd.dep i hin2 d hd).2
      have : oj = oi := Option.some.inj (hoj.symm.trans hoi)
      subst this
      rw [← hon]
      exact hall e he hb
    have hrec : unl (listed.setIfInBounds i true) hs.length = f := by
      have := unl_set (listed := listed) (i := i) (by have := hWd.lt; omega) (getD_both (mem_ready.1 hi).1) hs.length hin2
      omega
    have hiun : listed.getD i false = false := getD_both (mem_ready.1 hi).1
    have hil : i < l.length := by omega
    obtain ⟨h, hh⟩ : ∃ h, hs[i]? = some h := ⟨_, List.getElem?_eq_getElem hin2⟩
    obtain ⟨o, ho⟩ : ∃ o, l[i]? = some o := ⟨_, List.getElem?_eq_getElem hil⟩
    have hd := hdst i h o hh ho
    have hmem : h ∈ hs := List.mem_of_getElem? hh
    have hdep2 : ∀ j ∈ h.deps, ∀ (hj : Head), hs[j]? = some hj → hj.R (a.eval (.tmp hj.dst)) W := fun j hj hj' hjj => by
      have hd1 : ((hs.map (·.deps)).toArray.getD i []) = h.deps := by simp [hh]
      exact hI.2.2.2 j hj' hjj (hdep j (by rw [hd1]; exact hj))
    have hself : ∀ v, (a.put (some h.dst) v).eval (.tmp h.dst) = v := fun v => by
      have hs1 : h.dst < a.tmps.size := by rw [hI.1.2.1]; exact hin h hmem
      simp [Act.put, Act.eval, hs1]
    have hoth : ∀ v (j : Nat) (hj : Head), hs[j]? = some hj → j ≠ i → (a.put (some h.dst) v).eval (.tmp hj.dst) = a.eval (.tmp hj.dst) := fun v j hj hjj hij => by
      refine eval_put_ne (fun e => hij ?_) _ _
      have hjl := lt_of_some hjj
      have e1 : (hs.map (·.dst))[j]'(by simpa using hjl) = (hs.map (·.dst))[i]'(by simpa using hin2) := by
        rw [List.getElem?_eq_getElem hjl] at hjj
        rw [List.getElem?_eq_getElem hin2] at hh
        injection hjj with hjj
        injection hh with hh
        simp only [List.getElem_map, hjj, hh]
        exact e.symm
      exact (List.getElem_inj hdis).1 e1
    have hlis : ∀ (j : Nat), j ≠ i → (listed.setIfInBounds i true).getD j false = listed.getD j false := fun j hij => by
      rw [Array.getD_eq_getD_getElem?, Array.getElem?_setIfInBounds_ne (Ne.symm hij), Array.getD_eq_getD_getElem?]
    have key : ∀ v W', h.R v W' → S i W W' → wpAny P .any l.toArray Q (f + g) (listed.setIfInBounds i true) (a.put (some h.dst) v) W' := fun v W' hR hfr => by
      refine wide6_any hW hg hdst hlen hin hdis hS hG h0 hm hy hk f _ _ _ (inv.set hi hin2) hrec ⟨hI.1.put (List.mem_map.2 ⟨h, hmem, rfl⟩) v, hG i _ _ hfr hI.2.1, fun j hj => ?_, fun j hj hjj hlj => ?_⟩
      · have hji : j ≠ i := fun e => by
          subst e
          rw [Array.getD_eq_getD_getElem?, Array.getElem?_setIfInBounds_self_of_lt (by have := hWd.lt; omega)] at hj
          cases hj
        rw [hlis j hji] at hj
        exact hS i j (Ne.symm hji) _ _ hfr (hI.2.2.1 j hj)
      · by_cases hij : j = i
        · subst hij
          rw [hh] at hjj
          injection hjj with hjj
          subst hjj
          rw [hself]
          exact hR
        · rw [hoth v j hj hjj hij]
          rw [hlis j hij] at hlj
          exact hm j hj hjj i (Ne.symm hij) _ _ _ (hI.2.2.2 j hj hjj hlj) hfr
    unfold wpOp
    rw [show l.toArray[i]? = some o by simpa using ho]
    simp only
    rcases hy i h o hh ho a W hI.1 hI.2.1 (hI.2.2.1 i hiun) hdep2 with ⟨hwt, hyl⟩ | ⟨hwt, hR⟩
    · rw [if_pos hwt]
      refine .inl ?_
      unfold Oper.wp
      rcases hyl with ⟨v, W', hr, hR, hb⟩ | ⟨fn, args, hr, hc⟩
      · rw [hr]
        simp only [Oper.upon, hd]
        exact key v W' hR hb
      · rw [hr]
        simp only [Oper.upon, hd]
        exact hc.mono fun e W' ⟨v, he, hR, hb⟩ => by subst he; exact key v W' hR hb
    · rw [if_neg (by rw [hwt]; exact Bool.false_ne_true)]
      rw [hd]
      exact key undef W hR (h0 i W)
/-- what is asked of one -/
def Head.ok6 (P : Program) (ops : Array Oper) (hs : List Head) (a0 : Act) (G : World → Prop) (Pre : Nat → World → Prop) (S : Nat → World → World → Prop) (i : Nat) (h : Head) (o : Oper) : Prop :=
  o.dst = some h.dst ∧ (∀ j, j ≠ i → ∀ v W W', h.R v W → S j W W' → h.R v W') ∧ ∀ a W, Agree (hs.map (·.dst)) a0 a → G W → Pre i W → (∀ j ∈ h.deps, ∀ (hj : Head), hs[j]? = some hj → hj.R (a.eval (.tmp hj.dst)) W) → Takes6 P ops o a W (S i) h.R
theorem wp_wide6 {id : Nat} {a0 : Act} {w0 : World} {l : List Oper} (G : World → Prop) (Pre : Nat → World → Prop) (S : Nat → World → World → Prop) (hs : List Head) (hmx : P.follows .mixedOrders = true)
    (hB : wideB l.toArray hs.length (hs.map (·.deps)).toArray = true)
    (hlen : decide (hs.length ≤ l.length) = true) (hin : (hs.map (·.dst)).all (fun d => decide (d < a0.tmps.size)) = true) (hdis : decide ((hs.map (·.dst)).Nodup) = true)
    (hS : ∀ i j, i ≠ j → ∀ W W', S i W W' → Pre j W → Pre j W') (hG : ∀ i W W', S i W W' → G W → G W') (h0 : ∀ i W, S i W W) (hp0 : ∀ j, Pre j { w0 with drawn := w0.drawn + 1 }) (hg0 : G { w0 with drawn := w0.drawn + 1 })
    (hok : All5 (Head.ok6 P l.toArray hs a0 G Pre S) 0 hs l)
    (hk : ∀ (vs : Tmp → Value) W, (∀ (i : Nat) (h : Head), hs[i]? = some h → h.R (vs h.dst) W) → G W → wpList P l.toArray Q (l.drop hs.length) ((hs.map (·.dst)).foldl (fun x d => x.put (some d) (vs d)) a0) W) :
    (Code.region id l.toArray true).wp P Q a0 w0 := by
  have hlen' := of_decide_eq_true hlen
  have hat : ∀ (i : Nat) (h : Head) (o : Oper), hs[i]? = some h → l[i]? = some o → Head.ok6 P l.toArray hs a0 G Pre S i h o := fun i h o hi ho => by
    have := hok.at i h o hi ho
    rwa [Nat.zero_add] at this
  have hunl : ∀ n, unl (Array.replicate l.toArray.size false) n = n := fun n => by
    induction n with
    | zero => rfl
    | succ n ih => rw [unl, ih, getD_replicate_false]; simp
  refine wp_region_any hmx ?_
  have hinv : HeadInv .any l.toArray hs.length (Array.replicate l.toArray.size false) := ⟨by simp, fun j oj hj hl => (by rw [getD_replicate_false] at hl; cases hl), fun t ht ht' => getD_in (by simpa using ht') (getD_replicate_false _ _)⟩
  have h1 := wide6_any (P := P) (Q := Q) (l := l) (hs := hs) (a0 := a0) (g := l.length - hs.length) (G := G) (Pre := Pre) (S := S) hB (by simp)
    (fun i h o hi ho => (hat i h o hi ho).1) hlen'
    (fun h hh => by
      have := List.all_eq_true.1 hin h.dst (List.mem_map.2 ⟨h, hh, rfl⟩)
      exact of_decide_eq_true this) (of_decide_eq_true hdis) hS hG h0
    (fun i h hi => by
      have hil := lt_of_some hi
      exact (hat i h _ hi (List.getElem?_eq_getElem (by omega))).2.1)
    (fun i h o hi ho => (hat i h o hi ho).2.2)
    (fun a W hA hgr hR => by
      have := hk (fun d => a.eval (.tmp d)) W hR hgr
      rw [← Agree.rebuild _ _ hA] at this
      exact this) hs.length (Array.replicate l.toArray.size false) a0 { w0 with drawn := w0.drawn + 1 } hinv (hunl _)
    ⟨Agree.refl _ _, hg0, fun j _ => hp0 j, fun i h hi hl => (by rw [getD_replicate_false] at hl; cases hl)⟩
  have hsz : l.toArray.size = hs.length + (l.length - hs.length) := by rw [List.size_toArray]; omega
  have e : wpAny P .any l.toArray Q l.toArray.size = wpAny P .any l.toArray Q (hs.length + (l.length - hs.length)) := congrArg _ hsz
  rw [e]
  exact h1
end
end Go.Proofs.Ytgnooakjkpkgiaa
