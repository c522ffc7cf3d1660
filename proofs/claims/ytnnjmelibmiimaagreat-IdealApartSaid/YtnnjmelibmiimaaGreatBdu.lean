/-
  WALKS: quota.Fits, its sum over a list, the reference's Fits.
-/
import Derived.Test.YtnnjmelibmiimaaGreatBdl
import Derived.Test.YtnnjmelibmiimaaGreatBda
import Derived.Test.YtnnjmelibmiimaaGreatBdb
namespace Go.Proofs.YtnnjmelibmiimaaGreat
open Go.RowKit

/-- what the quotas of a list want together -/
def sumQ (zs : List Int) : Int := (zs.map (fun q => 4 * q + 2)).sum
def allQ (zs : List Int) : Bool := zs.all quotaB
/-- how many of the first ones may be quotas -/
theorem sumQ_take_succ (zs : List Int) (k : Nat) (h : k < zs.length) : sumQ (zs.take (k + 1)) = sumQ (zs.take k) + (4 * zs[k]?.getD 0 + 2) := by
  rw [List.take_succ_eq_append_getElem h, List.getElem?_eq_getElem h]
  simp only [sumQ, List.map_append, List.sum_append, List.map_cons, List.map_nil, List.sum_cons, List.sum_nil, Option.getD_some]
  omega
theorem allQ_take_succ (zs : List Int) (k : Nat) (h : k < zs.length) : allQ (zs.take (k + 1)) = (allQ (zs.take k) && quotaB (zs[k]?.getD 0)) := by
  rw [List.take_succ_eq_append_getElem h, List.getElem?_eq_getElem h]
  simp only [allQ, List.all_append, List.all_cons, List.all_nil, Option.getD_some, Bool.and_true]
theorem sumQ_bd : ∀ (zs : List Int), allQ zs = true → 0 ≤ sumQ zs ∧ sumQ zs ≤ 4002 * zs.length
  | [], _ => by simp [sumQ]
  | z :: zs, h => by
    simp only [allQ, List.all_cons, Bool.and_eq_true] at h
    have h2 := sumQ_bd zs h.2
    have h1 := h.1
    simp only [quotaB, Bool.and_eq_true, decide_eq_true_eq] at h1
    simp only [sumQ, List.map_cons, List.sum_cons, List.length_cons] at h2 ⊢
    omega
theorem allQ_not (zs : List Int) (k : Nat) (h : k < zs.length) (hq : quotaB (zs[k]?.getD 0) = false) : allQ zs = false := by
  cases hh : allQ zs
  · rfl
  · exfalso
    have := (List.all_eq_true.1 hh) zs[k] (List.getElem_mem h)
    rw [List.getElem?_eq_getElem h] at hq
    simp [this] at hq

def SumEnd (zs : List Int) (e : Ending) : Prop := e = if allQ zs then .returned (.tuple #[.int .i64 (sumQ zs), .int .i64 0]) else .returned (.tuple #[.int .i64 0, .int .i64 2])
theorem sumEnd_ok {zs : List Int} (h : allQ zs = true) {n : Int} (hn : n = sumQ zs) : SumEnd zs (.returned (.tuple #[.int .i64 n, .int .i64 0])) := by simp [SumEnd, h, hn]
theorem sumEnd_bad {zs : List Int} (h : allQ zs = false) : SumEnd zs (.returned (.tuple #[.int .i64 0, .int .i64 2])) := by simp [SumEnd, h]

set_option maxHeartbeats 1000000 in
theorem sumR_any (A : Option Addr) (n c : Nat) (zs : List Int) (w : World) (h : IsRow .i64 w A n c zs) (hn : n ≤ 64) :
    Calls Tryz.prog 104 #[.slice A n c, .func (.func 105) #[] #[]] w fun e w' => SumEnd zs e ∧ w = w' := by
  obtain ⟨hl, hnc, hcm, hwf, hcell⟩ := h
  have hcm' : c ≤ 9223372036854775807 := hcm
  clear hcm
  go_enter Tryz.func104, Tryz.ntmps104
  go_wp2
  go_loop [6, 13] (fun s i => ∃ k : Nat, k ≤ n ∧ allQ (zs.take k) = true ∧ i = .int .i64 k ∧ s = .int .i64 (sumQ (zs.take k))) (fun _ i => n - (intOf i).toNat)
  case atStart => exact ⟨0, Nat.zero_le _, by simp [allQ], rfl, by simp [sumQ]⟩
  case round =>
    obtain ⟨k, hk, hq, rfl, rfl⟩ := hrel
    have hbd := sumQ_bd _ hq
    have hkl : (zs.take k).length = k := by simp; omega
    rw [hkl] at hbd
    clear hkl
    by_cases hlt : k < n
    · obtain ⟨x, rfl, -, hc⟩ : ∃ x, A = some x ∧ True ∧ ∀ i, i < n → w.cell? (x.add i) = some (.int .i64 (zs.getD i 0)) := by
        rcases hcell with ⟨_, h0⟩ | ⟨x, h1, _, h2⟩
        · omega
        · exact ⟨x, h1, trivial, h2⟩
      have hck := hc k hlt
      clear hcell hc
      have hs := sumQ_take_succ zs k (by omega)
      have ha := allQ_take_succ zs k (by omega)
      have HN := fun hq' => allQ_not zs k (by omega) hq'
      have e0 : zs.getD k 0 = zs[k]?.getD 0 := by simp [List.getD]
      rw [e0] at hck
      clear e0
      generalize zs[k]?.getD 0 = q at hck hs ha HN
      have HS := Lib.hid hs
      have HA := Lib.hid ha
      have HNN := Lib.hid HN
      have HQ := Lib.hid hq
      clear hs ha HN hq
      rcases three q 1 1000 with h1 | ⟨h0, h1⟩ | ⟨h0, h1, h2⟩
      · go_wp2_with (go_at_call 105; refine (qR_bad _ _ (by omega)).mono ?_; rintro e w' ⟨rfl, rfl⟩)
        go_ret2
        exact ⟨sumEnd_bad (HNN.out (quotaB_no (by omega))), rfl⟩
      · go_wp2_with (go_at_call 105; refine (qR_bad _ _ (by omega)).mono ?_; rintro e w' ⟨rfl, rfl⟩)
        go_ret2
        exact ⟨sumEnd_bad (HNN.out (quotaB_no (by omega))), rfl⟩
      · go_wp2_with (go_at_call 105; refine (qR_ok _ _ (by omega) (by omega)).mono ?_; rintro e w' ⟨rfl, rfl⟩)
        go_round
        case rel => exact ⟨k + 1, by omega, by rw [HA.out, HQ.out, quotaB_yes (by omega) (by omega)]; rfl, by go_num, by rw [HS.out]⟩
        case measure => simp [intOf]; omega
    · have HQ := Lib.hid hq
      clear hq
      go_wp2
      go_ret2
      have e1 : zs.take k = zs := List.take_of_length_le (by omega)
      rw [e1] at HQ
      exact ⟨sumEnd_ok HQ.out (by rw [e1]), rfl⟩

def FitsEnd (blocks : Int) (zs : List Int) (e : Ending) : Prop :=
  e = if zs.length ≤ 64 ∧ allQ zs = true then .returned (.tuple #[.bool (decide (8 * (zs.length : Int) + 4 + sumQ zs ≤ blocks)), .int .i64 0]) else .returned (.tuple #[.bool false, .int .i64 2])
theorem fitsEnd_ok {zs : List Int} {blocks : Int} (h0 : zs.length ≤ 64) (h : allQ zs = true) {b : Bool} (hn : b = decide (8 * (zs.length : Int) + 4 + sumQ zs ≤ blocks)) : FitsEnd blocks zs (.returned (.tuple #[.bool b, .int .i64 0])) := by simp [FitsEnd, h, hn, h0]
theorem fitsEnd_bad {zs : List Int} {blocks : Int} (h : zs.length ≤ 64 → allQ zs = false) : FitsEnd blocks zs (.returned (.tuple #[.bool false, .int .i64 2])) := by
  unfold FitsEnd
  rw [if_neg]
  rintro ⟨h1, h2⟩
  rw [h h1] at h2
  cases h2

set_option maxHeartbeats 1000000 in
theorem qFits_any (blocks : Int) (A : Option Addr) (n c : Nat) (zs : List Int) (w : World) (h : IsRow .i64 w A n c zs) :
    Calls Tryz.prog 73 #[.int .i64 blocks, .slice A n c] w fun e w' => FitsEnd blocks zs e ∧ w = w' := by
  have hl := h.1
  by_cases hn : n ≤ 64
  · have H := Lib.hid h
    have HL := Lib.hid hl
    clear h hl
    cases hq : allQ zs
    · have HQ := Lib.hid hq
      clear hq
      go_enter Tryz.func73, Tryz.ntmps73
      go_wp2_with fail
      refine (qD_ok _ _ (by omega) (by omega)).mono ?_; rintro e w' ⟨rfl, rfl⟩
      go_wp2_with fail
      refine (sumR_any _ _ _ zs _ H.out hn).mono ?_; rintro e w' ⟨he, rfl⟩
      unfold SumEnd at he
      rw [HQ.out] at he
      subst he
      go_wp2
      go_ret2
      exact ⟨fitsEnd_bad (fun _ => HQ.out), rfl⟩
    · have hbd := sumQ_bd zs hq
      rw [HL.out] at hbd
      have HQ := Lib.hid hq
      clear hq
      go_enter Tryz.func73, Tryz.ntmps73
      go_wp2_with fail
      refine (qD_ok _ _ (by omega) (by omega)).mono ?_; rintro e w' ⟨rfl, rfl⟩
      go_wp2_with fail
      refine (sumR_any _ _ _ zs _ H.out hn).mono ?_; rintro e w' ⟨he, rfl⟩
      unfold SumEnd at he
      rw [HQ.out] at he
      subst he
      go_wp2
      go_ret2
      exact ⟨fitsEnd_ok (by rw [HL.out]; exact hn) HQ.out (by rw [HL.out]), rfl⟩
  · go_enter Tryz.func73, Tryz.ntmps73
    go_wp2_with fail
    refine (qD_bad _ _ (by omega)).mono ?_; rintro e w' ⟨rfl, rfl⟩
    go_wp2
    go_ret2
    exact ⟨fitsEnd_bad (fun h' => absurd h' (by rw [hl]; exact hn)), rfl⟩

end Go.Proofs.YtnnjmelibmiimaaGreat
namespace Go.Proofs.YtnnjmelibmiimaaGreat
open Go.RowKit
set_option linter.unusedVariables false

section
variable {P : Program} {Q : Exit → Act → World → Prop}
theorem wideD_any {l : List Oper} {hs : List Head} {a0 : Act} {w0 : World} {g : Nat} (hW : wideB l.toArray hs.length (hs.map (·.deps)).toArray = true) (hg : (l.drop hs.length).length = g)
    (hdst : ∀ (i : Nat) (h : Head) (o : Oper), hs[i]? = some h → l[i]? = some o → o.dst = some h.dst) (hlen : hs.length ≤ l.length) (hin : ∀ h ∈ hs, h.dst < a0.tmps.size) (hdis : (hs.map (·.dst)).Nodup)
    (hm : ∀ h ∈ hs, Mono h.R)
    (hy : ∀ (i : Nat) (h : Head) (o : Oper), hs[i]? = some h → l[i]? = some o → ∀ a W, Agree (hs.map (·.dst)) a0 a → Below w0.heap.size w0 W → (∀ j ∈ h.deps, ∀ (hj : Head), hs[j]? = some hj → hj.R (a.eval (.tmp hj.dst)) W) → (∀ j ∈ h.deps, ∀ k ∈ h.deps, ∀ (hj hk : Head), hs[j]? = some hj → hs[k]? = some hk → j ≠ k → hj.fresh = true → hk.fresh = true → blk (a.eval (.tmp hj.dst)) ≠ blk (a.eval (.tmp hk.dst))) → Takes P l.toArray o a W h.fresh h.R)
    (hk : ∀ a W, Agree (hs.map (·.dst)) a0 a → Below w0.heap.size w0 W → (∀ (i : Nat) (h : Head), hs[i]? = some h → h.R (a.eval (.tmp h.dst)) W) → (∀ (i j : Nat) (h k : Head), hs[i]? = some h → hs[j]? = some k → i ≠ j → h.fresh = true → k.fresh = true → blk (a.eval (.tmp h.dst)) ≠ blk (a.eval (.tmp k.dst))) → wpList P l.toArray Q (l.drop hs.length) a W) :
    ∀ (f : Nat) (listed : Array Bool) (a : Act) (W : World), HeadInv .any l.toArray hs.length listed → unl listed hs.length = f → FreeInv hs a0 w0 listed a W → wpAny P .any l.toArray Q (f + g) listed a W
  | 0, listed, a, W, inv, hu, hI => by
    have hWd := wide_of hW
    have hall := unl_zero _ hu
    rw [Nat.zero_add]
    have hsq := hWd.seq
    rw [← all_listed inv hWd.lt hall, show l.toArray.size - hs.length = g by rw [← hg]; simp] at hsq
    have := wpAny_of_seq (md := .any) (Q' := Q) (P := P) (l.drop hs.length) hs.length listed a W (fun j => by simp [List.getElem?_drop]) (by rw [hg]; exact hsq) (hk a W hI.1 hI.2.1 (fun i h hi => hI.2.2.1 i h hi (hall i (lt_of_some hi))) (fun i j h k hi hj hij => hI.2.2.2.2 i j h k hi hj hij (hall i (lt_of_some hi)) (hall j (lt_of_some hj))))
    rwa [hg] at this
  | f + 1, listed, a, W, inv, hu, hI => by
    have hWd := wide_of hW
    obtain ⟨i0, hi0, hun0, hlow0⟩ := unl_pos (listed := listed) hs.length (by omega)
    have hsz := inv.size
    have hun0' : listed.getD i0 true = false := getD_in (by have := hWd.lt; omega) hun0
    rw [show f + 1 + g = (f + g) + 1 by omega]
    have hne : i0 ∈ Region.ready .any l.toArray listed := by
      obtain ⟨o, ho, hb⟩ := hWd.low i0 hi0
      exact mem_ready.2 ⟨hun0', o, ho, fun e he hbd => hlow0 _ (hb e he hbd)⟩
    refine ⟨fun e => (by rw [e] at hne; cases hne), fun i hi => ?_⟩
    have hin2 : i < hs.length := by
      rcases Nat.lt_or_ge i hs.length with h | h
      · exact h
      · exact absurd hi (tail_waits hWd.sink hWd.chain hWd.lt inv _ i0 rfl hi0 hun0' i h)
    have hdep : ∀ d ∈ ((hs.map (·.deps)).toArray.getD i []), listed.getD d false = true := fun d hd => by
      obtain ⟨_, oi, hoi, hall⟩ := mem_ready.1 hi
      obtain ⟨oj, hoj, e, he, hb, hon⟩ := Region.waitsFor_spec (hWd.dep i hin2 d hd).2
      have : oj = oi := Option.some.inj (hoj.symm.trans hoi)
      subst this
      rw [← hon]
      exact hall e he hb
    have hrec : unl (listed.setIfInBounds i true) hs.length = f := by
      have := unl_set (listed := listed) (i := i) (by have := hWd.lt; omega) (getD_both (mem_ready.1 hi).1) hs.length hin2
      omega
    have hil : i < l.length := by omega
    obtain ⟨h, hh⟩ : ∃ h, hs[i]? = some h := ⟨_, List.getElem?_eq_getElem hin2⟩
    obtain ⟨o, ho⟩ : ∃ o, l[i]? = some o := ⟨_, List.getElem?_eq_getElem hil⟩
    have hd := hdst i h o hh ho
    have hmem : h ∈ hs := List.mem_of_getElem? hh
    have hdep2 : ∀ j ∈ h.deps, ∀ (hj : Head), hs[j]? = some hj → hj.R (a.eval (.tmp hj.dst)) W := fun j hj hj' hjj => by
      have hd1 : ((hs.map (·.deps)).toArray.getD i []) = h.deps := by simp [hh]
      exact hI.2.2.1 j hj' hjj (hdep j (by rw [hd1]; exact hj))
    have hdep3 : ∀ j ∈ h.deps, ∀ k ∈ h.deps, ∀ (hj hk : Head), hs[j]? = some hj → hs[k]? = some hk → j ≠ k → hj.fresh = true → hk.fresh = true → blk (a.eval (.tmp hj.dst)) ≠ blk (a.eval (.tmp hk.dst)) := fun j hj k hk' x y hx hy' hjk fx fy => by
      have hd1 : ((hs.map (·.deps)).toArray.getD i []) = h.deps := by simp [hh]
      exact hI.2.2.2.2 j k x y hx hy' hjk (hdep j (by rw [hd1]; exact hj)) (hdep k (by rw [hd1]; exact hk')) fx fy
    have hself : ∀ v, (a.put (some h.dst) v).eval (.tmp h.dst) = v := fun v => by
      have hs1 : h.dst < a.tmps.size := by rw [hI.1.2.1]; exact hin h hmem
      simp [Act.put, Act.eval, hs1]
    have hoth : ∀ v (j : Nat) (hj : Head), hs[j]? = some hj → j ≠ i → (a.put (some h.dst) v).eval (.tmp hj.dst) = a.eval (.tmp hj.dst) := fun v j hj hjj hij => by
      refine eval_put_ne (fun e => hij ?_) _ _
      have hjl := lt_of_some hjj
      have e1 : (hs.map (·.dst))[j]'(by simpa using hjl) = (hs.map (·.dst))[i]'(by simpa using hin2) := by
        rw [List.getElem?_eq_getElem hjl] at hjj
        rw [List.getElem?_eq_getElem hin2] at hh
        injection hjj with hjj
        injection hh with hh
        simp only [List.getElem_map, hjj, hh]
        exact e.symm
      exact (List.getElem_inj hdis).1 e1
    have hlis : ∀ (j : Nat), j ≠ i → (listed.setIfInBounds i true).getD j false = true → listed.getD j false = true := fun j hij h' => by
      rw [Array.getD_eq_getD_getElem?, Array.getElem?_setIfInBounds_ne (Ne.symm hij)] at h'
      rw [Array.getD_eq_getD_getElem?]
      exact h'
    have key : ∀ v W', h.R v W' → Below W.heap.size W W' → Fresh h.fresh v W W' → wpAny P .any l.toArray Q (f + g) (listed.setIfInBounds i true) (a.put (some h.dst) v) W' := fun v W' hR hb hfr => by
      refine wideD_any hW hg hdst hlen hin hdis hm hy hk f _ _ _ (inv.set hi hin2) hrec ⟨hI.1.put (List.mem_map.2 ⟨h, hmem, rfl⟩) v, below_tr hI.2.1 hb hI.2.1.size, fun j hj hjj hlj => ?_, fun j hj hjj hlj hf => ?_, fun j k hj hk' hjj hkk hjk hlj hlk hfj hfk => ?_⟩
      · by_cases hij : j = i
        · subst hij
          rw [hh] at hjj
          injection hjj with hjj
          subst hjj
          rw [hself]
          exact hR
        · rw [hoth v j hj hjj hij]
          exact hm hj (List.mem_of_getElem? hjj) _ _ _ (hI.2.2.1 j hj hjj (hlis j hij hlj)) hb
      · by_cases hij : j = i
        · subst hij
          rw [hh] at hjj
          injection hjj with hjj
          subst hjj
          rw [hself]
          obtain ⟨g', e1, e2, e3⟩ := hfr hf
          exact ⟨g', e1, Nat.le_trans hI.2.1.size e2, e3⟩
        · rw [hoth v j hj hjj hij]
          obtain ⟨g', e1, e2, e3⟩ := hI.2.2.2.1 j hj hjj (hlis j hij hlj) hf
          exact ⟨g', e1, e2, Nat.lt_of_lt_of_le e3 hb.size⟩
      · by_cases hij : j = i
        · subst hij
          have hki : k ≠ j := Ne.symm hjk
          rw [hh] at hjj
          injection hjj with hjj
          subst hjj
          rw [hself, hoth v k hk' hkk hki]
          obtain ⟨g', e1, e2, e3⟩ := hfr hfj
          obtain ⟨g2, f1, f2, f3⟩ := hI.2.2.2.1 k hk' hkk (hlis k hki hlk) hfk
          rw [e1, f1]
          intro e
          injection e with e
          omega
        · by_cases hik : k = i
          · subst hik
            rw [hh] at hkk
            injection hkk with hkk
            subst hkk
            rw [hself, hoth v j hj hjj hij]
            obtain ⟨g', e1, e2, e3⟩ := hfr hfk
            obtain ⟨g2, f1, f2, f3⟩ := hI.2.2.2.1 j hj hjj (hlis j hij hlj) hfj
            rw [e1, f1]
            intro e
            injection e with e
            omega
          · rw [hoth v j hj hjj hij, hoth v k hk' hkk hik]
            exact hI.2.2.2.2 j k hj hk' hjj hkk hjk (hlis j hij hlj) (hlis k hik hlk) hfj hfk
    unfold wpOp
    rw [show l.toArray[i]? = some o by simpa using ho]
    simp only
    rcases hy i h o hh ho a W hI.1 hI.2.1 hdep2 hdep3 with ⟨hwt, hyl⟩ | ⟨hwt, hR, hfr⟩
    · rw [if_pos hwt]
      refine .inl ?_
      unfold Oper.wp
      rcases hyl with ⟨v, W', hr, hR, hb, hfr⟩ | ⟨fn, args, hr, hc⟩
      · rw [hr]
        simp only [Oper.upon, hd]
        exact key v W' hR hb hfr
      · rw [hr]
        simp only [Oper.upon, hd]
        exact hc.mono fun e W' ⟨v, he, hR, hb, hfr⟩ => by subst he; exact key v W' hR hb hfr
    · rw [if_neg (by rw [hwt]; exact Bool.false_ne_true)]
      rw [hd]
      exact key undef W hR (Below.refl _ _) (by rw [hfr]; exact fresh_no _ _ _)
/-- what is asked of one -/
def Head.okD (P : Program) (ops : Array Oper) (hs : List Head) (a0 : Act) (w0 : World) (h : Head) (o : Oper) : Prop :=
  o.dst = some h.dst ∧ Mono h.R ∧ (∀ a W, Agree (hs.map (·.dst)) a0 a → Below w0.heap.size w0 W → (∀ j ∈ h.deps, ∀ (hj : Head), hs[j]? = some hj → hj.R (a.eval (.tmp hj.dst)) W) → (∀ j ∈ h.deps, ∀ k ∈ h.deps, ∀ (hj hk : Head), hs[j]? = some hj → hs[k]? = some hk → j ≠ k → hj.fresh = true → hk.fresh = true → blk (a.eval (.tmp hj.dst)) ≠ blk (a.eval (.tmp hk.dst))) → Takes P ops o a W h.fresh h.R)
/-- THE LAW -/
theorem wp_wideDa {id : Nat} {a0 : Act} {w0 : World} {l : List Oper} (hs : List Head) (hmx : P.follows .mixedOrders = true) (hlen : hs.length ≤ l.length)
    (hB : wideB l.toArray hs.length (hs.map (·.deps)).toArray = true)
    (hdst : ∀ (i : Nat) (h : Head) (o : Oper), hs[i]? = some h → l[i]? = some o → o.dst = some h.dst) (hin : ∀ h ∈ hs, h.dst < a0.tmps.size) (hdis : (hs.map (·.dst)).Nodup) (hm : ∀ h ∈ hs, Mono h.R)
    (hy : ∀ (i : Nat) (h : Head) (o : Oper), hs[i]? = some h → l[i]? = some o → ∀ a W, Agree (hs.map (·.dst)) a0 a → Below w0.heap.size w0 W → (∀ j ∈ h.deps, ∀ (hj : Head), hs[j]? = some hj → hj.R (a.eval (.tmp hj.dst)) W) → (∀ j ∈ h.deps, ∀ k ∈ h.deps, ∀ (hj hk : Head), hs[j]? = some hj → hs[k]? = some hk → j ≠ k → hj.fresh = true → hk.fresh = true → blk (a.eval (.tmp hj.dst)) ≠ blk (a.eval (.tmp hk.dst))) → Takes P l.toArray o a W h.fresh h.R)
    (hk : ∀ (vs : Tmp → Value) W, (∀ (i : Nat) (h : Head), hs[i]? = some h → h.R (vs h.dst) W) → (∀ (i j : Nat) (h k : Head), hs[i]? = some h → hs[j]? = some k → i ≠ j → h.fresh = true → k.fresh = true → blk (vs h.dst) ≠ blk (vs k.dst)) → Below w0.heap.size w0 W → wpList P l.toArray Q (l.drop hs.length) ((hs.map (·.dst)).foldl (fun x d => x.put (some d) (vs d)) a0) W) :
    (Code.region id l.toArray true).wp P Q a0 w0 := by
  refine wp_region_any hmx ?_
  have hinv : HeadInv .any l.toArray hs.length (Array.replicate l.toArray.size false) := ⟨by simp, fun j oj hj hl => (by rw [getD_replicate_false] at hl; cases hl), fun t ht ht' => getD_in (by simpa using ht') (getD_replicate_false _ _)⟩
  have hunl : ∀ n, unl (Array.replicate l.toArray.size false) n = n := fun n => by
    induction n with
    | zero => rfl
    | succ n ih => rw [unl, ih, getD_replicate_false]; simp
  have h1 := wideD_any (P := P) (Q := Q) (l := l) (hs := hs) (a0 := a0) (w0 := w0) (g := l.length - hs.length) hB (by simp) hdst hlen hin hdis hm hy
    (fun a W hA hb hR hF => by
      have := hk (fun d => a.eval (.tmp d)) W hR hF hb
      rw [← Agree.rebuild _ _ hA] at this
      exact this) hs.length (Array.replicate l.toArray.size false) a0 { w0 with drawn := w0.drawn + 1 } hinv (hunl _)
    ⟨Agree.refl _ _, (Below.refl _ w0).drew, fun i h hi hl => (by rw [getD_replicate_false] at hl; cases hl), fun i h hi hl => (by rw [getD_replicate_false] at hl; cases hl), fun i j h k hi hj hij hl => (by rw [getD_replicate_false] at hl; cases hl)⟩
  have hsz : l.toArray.size = hs.length + (l.length - hs.length) := by rw [List.size_toArray]; omega
  have e : wpAny P .any l.toArray Q l.toArray.size = wpAny P .any l.toArray Q (hs.length + (l.length - hs.length)) := congrArg _ hsz
  rw [e]
  exact h1
theorem wp_wideD {id : Nat} {a0 : Act} {w0 : World} {l : List Oper} (hs : List Head) (hmx : P.follows .mixedOrders = true)
    (hB : wideB l.toArray hs.length (hs.map (·.deps)).toArray = true)
    (hlen : decide (hs.length ≤ l.length) = true) (hin : (hs.map (·.dst)).all (fun d => decide (d < a0.tmps.size)) = true) (hdis : decide ((hs.map (·.dst)).Nodup) = true)
    (hok : AllHeads (Head.okD P l.toArray hs a0 w0) hs l)
    (hk : ∀ (vs : Tmp → Value) W, (∀ (i : Nat) (h : Head), hs[i]? = some h → h.R (vs h.dst) W) → (∀ (i j : Nat) (h k : Head), hs[i]? = some h → hs[j]? = some k → i ≠ j → h.fresh = true → k.fresh = true → blk (vs h.dst) ≠ blk (vs k.dst)) → Below w0.heap.size w0 W → wpList P l.toArray Q (l.drop hs.length) ((hs.map (·.dst)).foldl (fun x d => x.put (some d) (vs d)) a0) W) :
    (Code.region id l.toArray true).wp P Q a0 w0 := by
  have hlen' := of_decide_eq_true hlen
  have hmem : ∀ h ∈ hs, ∃ (i : Nat) (o : Oper), hs[i]? = some h ∧ l[i]? = some o := fun h hh => by
    obtain ⟨i, hi, rfl⟩ := List.getElem_of_mem hh
    exact ⟨i, _, List.getElem?_eq_getElem hi, List.getElem?_eq_getElem (by omega)⟩
  refine wp_wideDa hs hmx hlen' hB (fun i h o hi ho => (hok.at i h o hi ho).1) (fun h hh => ?_) (of_decide_eq_true hdis) (fun h hh => ?_) (fun i h o hi ho => (hok.at i h o hi ho).2.2) hk
  · have := List.all_eq_true.1 hin h.dst (List.mem_map.2 ⟨h, hh, rfl⟩)
    exact of_decide_eq_true this
  · obtain ⟨i, o, hi, ho⟩ := hmem h hh
    exact (hok.at i h o hi ho).2.1
end
end Go.Proofs.YtnnjmelibmiimaaGreat
