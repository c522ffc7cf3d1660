/-
  FREE PAGES: the reference's Of, Same, May, Free: walks.
-/
import Derived.Test.YtmeakfocppooiaaRnC
namespace Go.Proofs.Ytmeakfocppooiaa
open Go.RowKit
set_option linter.unusedVariables false

set_option maxRecDepth 100000 in
theorem eq_rn (a b : Nat × Nat) (W : World) : (Op.equalIn 10000 105 (.agg #[.int .u32 (a.1 : Int), .int .u32 (a.2 : Int)]) (.agg #[.int .u32 (b.1 : Int), .int .u32 (b.2 : Int)])).run Try.prog W = .ok (decide (a = b)) W := by
  obtain ⟨a1, a2⟩ := a
  obtain ⟨b1, b2⟩ := b
  have hd : decide ((a1, a2) = (b1, b2)) = (decide (a1 = b1) && decide (a2 = b2)) := by
    rw [← Bool.decide_and, decide_eq_decide]
    simp
  rw [hd]
  go_simp
  by_cases h1 : a1 = b1
  · by_cases h2 : a2 = b2
    · simp [h1, h2]
    · simp [h1, h2]
      omega
  · simp [h1]
    omega
set_option maxRecDepth 100000 in
set_option maxHeartbeats 4000000 in
theorem sameR_any (A B : Option Addr) (n m c d : Nat) (l k : RnL) (w : World) (ha : RnB w A n c l) (hb : RnB w B m d k) :
    Calls Try.prog 44 #[.slice A n c, .slice B m d] w fun e w' => e = .returned (.bool (decide (l = k))) ∧ Below w.heap.size w w' := by
  have hn : (n : Int) ≤ 9223372036854775807 := by have := ha.cap; have := ha.max; unfold maxLen at this; omega
  have HA := Lib.hid ha
  have HB := Lib.hid hb
  by_cases hnm : n = m
  · subst hnm
    have hne : ((n : Int) != (n : Int)) = false := by simp
    clear ha hb
    go_enter Try.func44, Try.ntmps44
    go_wp2_with fail
    go_loopw [5] (fun z wx => ∃ i : Nat, i ≤ n ∧ z = .int .i64 (i : Int) ∧ l.take i = k.take i ∧ Below w.heap.size w wx) (fun z _ => n - (intOf z).toNat)
    case atStart => exact ⟨0, Nat.zero_le _, rfl, by simp, Below.refl _ _⟩
    case round =>
      obtain ⟨i, hi, rfl, hal, hb⟩ := hrel
      have HX := Lib.hid hb
      have HT := Lib.hid hal
      clear hb hal
      by_cases hlt : i < n
      · obtain ⟨r, hr⟩ : ∃ r, l[i]? = some r := ⟨_, List.getElem?_eq_getElem (by rw [HA.out.len]; exact hlt)⟩
        obtain ⟨q, hq⟩ : ∃ q, k[i]? = some q := ⟨_, List.getElem?_eq_getElem (by rw [HB.out.len]; exact hlt)⟩
        obtain ⟨x, rfl, _, hcel⟩ := HA.out.at hr
        obtain ⟨y, rfl, _, hcel2⟩ := HB.out.at hq
        have hlti : (i : Int) < (n : Int) := by omega
        have HLT := Lib.hid hlt
        obtain ⟨r0, r1⟩ := hcel _ HX.out
        obtain ⟨q0, q1⟩ := hcel2 _ HX.out
        have HTK : Hid (r = q → l.take (i + 1) = k.take (i + 1)) := Lib.hid fun e => by rw [List.take_add_one, List.take_add_one, HT.out, hr, hq, e]
        have HNE : Hid (r ≠ q → l ≠ k) := Lib.hid fun e h => e (by rw [h, hq] at hr; injection hr with hr; exact hr.symm)
        have heq := fun W => eq_rn r q W
        clear hlt hi hr hq hcel hcel2
        by_cases hrq : r = q
        · have hs := Lib.hid (HTK.out hrq)
          rw [decide_eq_true hrq] at heq
          clear hrq
          go_wp2_with fail
          go_quiet (fail)
          go_wp2_with fail
          go_roundw
          case rel => exact ⟨i + 1, HLT.out, by go_num, hs.out, below_dn HX.out _⟩
          case measure => simp [intOf]; have := HLT.out; omega
        · have hs := Lib.hid (HNE.out hrq)
          rw [decide_eq_false hrq] at heq
          clear hrq
          go_wp2_with fail
          go_quiet (fail)
          go_wp2_with fail
          go_ret
          exact ⟨by rw [decide_eq_false hs.out]; rfl, below_dn HX.out _⟩
      · obtain rfl : i = n := by omega
        have hs : Hid (l = k) := Lib.hid (by
          have := HT.out
          rwa [List.take_of_length_le (by rw [HA.out.len]; exact Nat.le_refl _), List.take_of_length_le (by rw [HB.out.len]; exact Nat.le_refl _)] at this)
        clear hlt hi
        go_wp2_with fail
        go_ret
        exact ⟨by rw [decide_eq_true hs.out]; rfl, HX.out⟩
  · have hne : ((n : Int) != (m : Int)) = true := by rw [bne_iff_ne]; omega
    have hs : Hid (l ≠ k) := Lib.hid fun e => hnm (by rw [← ha.len, ← hb.len, e])
    clear ha hb hnm
    go_enter Try.func44, Try.ntmps44
    go_wp2_with fail
    go_ret
    exact ⟨by rw [decide_eq_false hs.out]; rfl, Below.refl _ _⟩
theorem may08_any (z : Int) (w : World) : Calls Try.prog 84 #[.int .i64 z] w fun e w' => e = .returned (.bool (decide (8 ≤ z) && decide (z ≤ 4096))) ∧ w = w' := by
  by_cases h1 : 8 ≤ z
  · have d1 : decide (8 ≤ z) = true := decide_eq_true h1
    by_cases h2 : z ≤ 4096
    · have d2 : decide (z ≤ 4096) = true := decide_eq_true h2
      go_enter Try.func84, Try.ntmps84
      go_wp2_with fail
      go_ret
      exact ⟨by first | rfl | (rw [d1, d2]; rfl), rfl⟩
    · have d2 : decide (z ≤ 4096) = false := decide_eq_false h2
      go_enter Try.func84, Try.ntmps84
      go_wp2_with fail
      go_ret
      exact ⟨by first | rfl | (rw [d1, d2]; rfl), rfl⟩
  · have d1 : decide (8 ≤ z) = false := decide_eq_false h1
    go_enter Try.func84, Try.ntmps84
    go_wp2_with fail
    go_ret
    exact ⟨by first | rfl | (rw [d1]; rfl), rfl⟩
theorem RuB.last {w : World} {B g k cap : Nat} {L0 : RnL} {r : Nat × Nat} (h : RuB w B (.slice (some ⟨g, 0, none⟩) (k + 1) cap) (L0 ++ [r])) (hk : L0.length = k) (q : Nat) :
    w.cell? ⟨g, k * 2 + 1, none⟩ = some (.int .u32 (r.2 : Int)) ∧ w.frozen? ⟨g, k * 2 + 1, none⟩ = false ∧ B ≤ g ∧ RuB (w.setCell ⟨g, k * 2 + 1, none⟩ (.int .u32 (q : Int))) B (.slice (some ⟨g, 0, none⟩) (k + 1) cap) (L0 ++ [(r.1, q)]) := by
  have hl : (L0 ++ [r]).length = k + 1 := by simp [hk]
  have hvs : runVs (L0 ++ [r]) = runVs L0 ++ [.int .u32 (r.1 : Int), .int .u32 (r.2 : Int)] := by rw [runVs_app]; rfl
  have hvs2 : runVs (L0 ++ [(r.1, q)]) = runVs L0 ++ [.int .u32 (r.1 : Int), .int .u32 (q : Int)] := by rw [runVs_app]; rfl
  have hl0 : (runVs L0).length = k * 2 := by rw [runVs_len, hk]
  have hcell : w.cell? ⟨g, k * 2 + 1, none⟩ = some (.int .u32 (r.2 : Int)) := by
    have := World.ownsRow.cells h (g := g) rfl (k * 2 + 1) (.int .u32 (r.2 : Int)) (by rw [hvs, List.getElem?_append_right (by omega), hl0]; simp)
    rwa [Addr.add_mid, Nat.zero_add] at this
  rcases h.2 with ⟨hn, _⟩ | ⟨g', cap', cur, hv, hg, hh, hnc, hcm, hcs, htk⟩
  · cases hn
  · injection hv with hv hv2 hv3
    injection hv with hv
    injection hv with hv
    subst hv hv3
    refine ⟨hcell, frozen_of_row w g _ _ _ hh, hg, ?_⟩
    refine ⟨by rw [runVs_len], .inr ⟨g, cap, cur.setIfInBounds (k * 2 + 1) (.int .u32 (q : Int)), by simp [hk], hg, heap_setCell_same w g _ cur _ _ hh, by simpa [hk] using hnc, hcm, by simpa using hcs, ?_⟩⟩
    rw [Array.toList_setIfInBounds, List.take_set, hvs2]
    have e1 : (L0 ++ [(r.1, q)]).length * 2 = (L0 ++ [r]).length * 2 := by simp
    rw [e1, htk, hvs, List.set_append_right _ _ (by omega), hl0]
    simp
theorem ofR_snoc (ps : List Nat) (p : Nat) : ofR (ps ++ [p]) = stepO (ofR ps) p := by unfold ofR; rw [List.foldl_append]; rfl
theorem stepO_len (l : RnL) (p : Nat) : (stepO l p).length ≤ l.length + 1 := by
  unfold stepO
  cases hl : l.getLast? with
  | none => simp
  | some r =>
    simp only
    split
    · simp
    · simp
theorem ofR_len : ∀ (ps : List Nat) (l : RnL), (ps.foldl stepO l).length ≤ l.length + ps.length
  | [], l => Nat.le_refl _
  | p :: r, l => by
    have h1 := ofR_len r (stepO l p)
    have h2 := stepO_len l p
    rw [List.foldl_cons, List.length_cons]
    omega
theorem one_rn (W : World) (a b : Nat) : RnB (W.alloc (.cells #[.int .u32 (a : Int), .int .u32 (b : Int)] 105)) (some ⟨W.heap.size, 0, none⟩) 1 1 [(a, b)] := by
  obtain ⟨A, c, h1, h2, _⟩ := (RuB.one W a b).rn
  injection h1 with h1 h3 h4
  subst h1 h4
  exact h2
set_option maxRecDepth 100000 in
set_option maxHeartbeats 8000000 in
theorem ofRn_any (A : Option Addr) (n c : Nat) (ps : List Nat) (w : World) (h : IsRow .u32 w A n c (ps.map fun p : Nat => (p : Int))) (hok : ∀ p ∈ ps, p < 4294967295) (hn : n ≤ 100000) :
    Calls Try.prog 85 #[.slice A n c] w fun e w' => ∃ v, e = .returned v ∧ RuB w' w.heap.size v (ofR ps) ∧ Below w.heap.size w w' := by
  have hlen : ps.length = n := by have := h.len; simpa using this
  have hnb : (n : Int) ≤ 100000 := by omega
  have HR := Lib.hid h
  have HL := Lib.hid hlen
  have HOK := Lib.hid hok
  have HN := Lib.hid hn
  clear h hok hlen hn
  go_enter Try.func85, Try.ntmps85
  go_wp2_with fail
  go_loopw [4, 3] (fun z v wx => ∃ i : Nat, i ≤ n ∧ z = .int .i64 (i : Int) ∧ RuB wx w.heap.size v (ofR (ps.take i)) ∧ Below w.heap.size w wx) (fun z _ _ => n - (intOf z).toNat)
  case atStart => exact ⟨0, Nat.zero_le _, rfl, RuB.nil _ _, Below.refl _ _⟩
  case round =>
    obtain ⟨i, hi, rfl, hv, hb⟩ := hrel
    have HB := Lib.hid hb
    have HV := Lib.hid hv
    clear hb hv
    by_cases hlt : i < n
    · obtain ⟨p, hp⟩ : ∃ p, ps[i]? = some p := ⟨_, List.getElem?_eq_getElem (by rw [HL.out]; exact hlt)⟩
      obtain ⟨x, rfl, hxl, hcel⟩ := HR.out.at (by omega)
      have hlti : (i : Int) < (n : Int) := by omega
      have HLT := Lib.hid hlt
      have hpk := HOK.out p (List.mem_of_getElem? hp)
      have KC : Hid (∀ W, Below w.heap.size w W → W.cell? (x.add i) = some (.int .u32 (p : Int))) := Lib.hid fun W hW => by
        have h1 := hcel i hlt
        rw [show (ps.map fun p : Nat => (p : Int)).getD i 0 = (p : Int) by rw [List.getD_eq_getElem?_getD, List.getElem?_map, hp]; rfl] at h1
        rw [← h1]
        exact World.cell?_of_block (hW.block _ (by rw [add_block]; exact hxl))
      have HS : Hid (ofR (ps.take (i + 1)) = stepO (ofR (ps.take i)) p) := Lib.hid (by rw [List.take_add_one, hp, Option.toList_some, ofR_snoc])
      have LB : Hid ((ofR (ps.take i)).length ≤ 100000) := Lib.hid (by
        have h1 := ofR_len (ps.take i) []
        have h2 := HN.out
        have h3 : (ps.take i).length ≤ i := List.length_take_le ..
        unfold ofR
        simp only [List.length_nil] at h1
        omega)
      have hwp : IntKind.u32.wrap ((p : Int) + 1) = (((p + 1 : Nat)) : Int) := wrap_u32 _ (by omega) (by omega)
      have r0 := KC.out wr HB.out
      clear hlt hi hp hxl hcel hpk
      generalize ofR (ps.take i) = L at *
      by_cases hL : L = []
      · subst hL
        have hst : Hid (stepO [] p = [] ++ [(p, p + 1)]) := Lib.hid rfl
        obtain ⟨Av, cv, rfl⟩ := row_shape HV.out
        have hlz : (([] : RnL).length : Int) = 0 := rfl
        rw [show ([] : RnL).length = 0 from rfl] at HV ⊢
        go_wp2_with fail
        go_quiet (fail)
        go_wp2_with fail
        have VQ : Hid (RuB (wr.drewN nq) w.heap.size (.slice Av 0 cv) []) := Lib.hid HV.out
        have BQ : Hid (Below w.heap.size w (wr.drewN nq)) := Lib.hid (below_dn HB.out _)
        generalize wr.drewN nq = wq at *
        clear HV HB r0
        refine wp_wide3 [⟨39, IsR (.slice Av 0 cv), [], false⟩, ⟨40, IsR (.slice (some x) n c), [], false⟩, ⟨41, IsR (.int .i64 (i : Int)), [], false⟩, ⟨42, IsR (.pointer (some (x.add i))), [1, 2], false⟩, ⟨43, IsR (.int .u32 (p : Int)), [3], false⟩, ⟨44, IsR (.slice (some x) n c), [], false⟩, ⟨45, IsR (.int .i64 (i : Int)), [], false⟩, ⟨46, IsR (.pointer (some (x.add i))), [5, 6], false⟩, ⟨47, IsR (.int .u32 (p : Int)), [7], false⟩, ⟨48, IsR (.int .u32 (((p + 1 : Nat)) : Int)), [8], false⟩, ⟨49, IsR (.agg #[.int .u32 (p : Int), .int .u32 (((p + 1 : Nat)) : Int)]), [4, 9], false⟩, ⟨50, (fun z W => ∃ G, z = .slice (some ⟨G, 0, none⟩) 1 1 ∧ RnB W (some ⟨G, 0, none⟩) 1 1 [(p, p + 1)]), [10], false⟩] (by kernel_rfl) (by kernel_rfl) rfl rfl rfl ⟨?_, ?_, ?_, ?_, ?_, ?_, ?_, ?_, ?_, ?_, ?_, ?_, trivial⟩ ?_
        · refine ⟨rfl, IsR.mono _, fun a W hA hb hd => takes_plain rfl (yields_value _ ?_ rfl)⟩
          have h3 : a.tmps[3]?.getD undef = .slice Av 0 cv := (eval_get a 3).trans ((hA.eval (by simp)).trans rfl)
          go_simp
        · refine ⟨rfl, IsR.mono _, fun a W hA hb hd => takes_plain rfl (yields_value _ ?_ rfl)⟩
          have h0 : a.tmps[0]?.getD undef = .slice (some x) n c := (eval_get a 0).trans ((hA.eval (by simp)).trans rfl)
          go_simp
        · refine ⟨rfl, IsR.mono _, fun a W hA hb hd => takes_plain rfl (yields_value _ ?_ rfl)⟩
          have h4 : a.tmps[4]?.getD undef = .int .i64 (i : Int) := (eval_get a 4).trans ((hA.eval (by simp)).trans rfl)
          go_simp
        · refine ⟨rfl, IsR.mono _, fun a W hA hb hd => takes_plain rfl (yields_value _ ?_ rfl)⟩
          have h40 : a.tmps[40]?.getD undef = .slice (some x) n c := (eval_get a 40).trans (hd 1 (by simp) _ rfl)
          have h41 : a.tmps[41]?.getD undef = .int .i64 (i : Int) := (eval_get a 41).trans (hd 2 (by simp) _ rfl)
          go_simp
        · refine ⟨rfl, IsR.mono _, fun a W hA hb hd => takes_plain rfl (yields_value _ ?_ rfl)⟩
          have h42 : a.tmps[42]?.getD undef = .pointer (some (x.add i)) := (eval_get a 42).trans (hd 3 (by simp) _ rfl)
          have hc : W.cell? (x.add i) = some (.int .u32 (p : Int)) := KC.out W (below_tr BQ.out hb BQ.out.size)
          go_simp
        · refine ⟨rfl, IsR.mono _, fun a W hA hb hd => takes_plain rfl (yields_value _ ?_ rfl)⟩
          have h0 : a.tmps[0]?.getD undef = .slice (some x) n c := (eval_get a 0).trans ((hA.eval (by simp)).trans rfl)
          go_simp
        · refine ⟨rfl, IsR.mono _, fun a W hA hb hd => takes_plain rfl (yields_value _ ?_ rfl)⟩
          have h4 : a.tmps[4]?.getD undef = .int .i64 (i : Int) := (eval_get a 4).trans ((hA.eval (by simp)).trans rfl)
          go_simp
        · refine ⟨rfl, IsR.mono _, fun a W hA hb hd => takes_plain rfl (yields_value _ ?_ rfl)⟩
          have h44 : a.tmps[44]?.getD undef = .slice (some x) n c := (eval_get a 44).trans (hd 5 (by simp) _ rfl)
          have h45 : a.tmps[45]?.getD undef = .int .i64 (i : Int) := (eval_get a 45).trans (hd 6 (by simp) _ rfl)
          go_simp
        · refine ⟨rfl, IsR.mono _, fun a W hA hb hd => takes_plain rfl (yields_value _ ?_ rfl)⟩
          have h46 : a.tmps[46]?.getD undef = .pointer (some (x.add i)) := (eval_get a 46).trans (hd 7 (by simp) _ rfl)
          have hc : W.cell? (x.add i) = some (.int .u32 (p : Int)) := KC.out W (below_tr BQ.out hb BQ.out.size)
          go_simp
        · refine ⟨rfl, IsR.mono _, fun a W hA hb hd => takes_plain rfl (yields_value _ ?_ rfl)⟩
          have h47 : a.tmps[47]?.getD undef = .int .u32 (p : Int) := (eval_get a 47).trans (hd 8 (by simp) _ rfl)
          have hwp2 := hwp
          go_simp
        · refine ⟨rfl, IsR.mono _, fun a W hA hb hd => takes_plain rfl (yields_value _ ?_ rfl)⟩
          have h43 : a.tmps[43]?.getD undef = .int .u32 (p : Int) := (eval_get a 43).trans (hd 4 (by simp) _ rfl)
          have h48 : a.tmps[48]?.getD undef = .int .u32 (((p + 1 : Nat)) : Int) := (eval_get a 48).trans (hd 9 (by simp) _ rfl)
          go_simp
        · refine ⟨rfl, fun z W W1 ⟨G1, h1, h2⟩ hb => ⟨G1, h1, h2.ab hb⟩, fun a W hA hb hd => takes_plain rfl ?_⟩
          have h49 : a.tmps[49]?.getD undef = .agg #[.int .u32 (p : Int), .int .u32 (((p + 1 : Nat)) : Int)] := (eval_get a 49).trans (hd 10 (by simp) _ rfl)
          refine .inl ⟨.slice (some ⟨W.heap.size, 0, none⟩) 1 1, W.alloc (.cells #[.int .u32 (p : Int), .int .u32 (((p + 1 : Nat)) : Int)] 105), ?_, ⟨_, rfl, one_rn W p (p + 1)⟩, (Below.refl _ _).alloc (Nat.le_refl _) _, fresh_no _ _ _⟩
          go_simp
        intro vs w4 hR hF hb
        obtain ⟨G, hG, hrn⟩ : (∃ G, vs 50 = .slice (some ⟨G, 0, none⟩) 1 1 ∧ RnB w4 (some ⟨G, 0, none⟩) 1 1 [(p, p + 1)]) := hR 11 _ rfl
        have e39 : vs 39 = .slice Av 0 cv := hR 0 _ rfl
        have e40 : vs 40 = .slice (some x) n c := hR 1 _ rfl
        have e41 : vs 41 = .int .i64 (i : Int) := hR 2 _ rfl
        have e42 : vs 42 = .pointer (some (x.add i)) := hR 3 _ rfl
        have e43 : vs 43 = .int .u32 (p : Int) := hR 4 _ rfl
        have e44 : vs 44 = .slice (some x) n c := hR 5 _ rfl
        have e45 : vs 45 = .int .i64 (i : Int) := hR 6 _ rfl
        have e46 : vs 46 = .pointer (some (x.add i)) := hR 7 _ rfl
        have e47 : vs 47 = .int .u32 (p : Int) := hR 8 _ rfl
        have e48 : vs 48 = .int .u32 (((p + 1 : Nat)) : Int) := hR 9 _ rfl
        have e49 : vs 49 = .agg #[.int .u32 (p : Int), .int .u32 (((p + 1 : Nat)) : Int)] := hR 10 _ rfl
        simp only [List.map_cons, List.map_nil, List.foldl_cons, List.foldl_nil, List.length_cons, List.length_nil, List.drop_succ_cons, List.drop_zero, Act.put, List.setIfInBounds_toArray, List.set_cons_zero, List.set_cons_succ, e39, e40, e41, e42, e43, e44, e45, e46, e47, e48, e49, hG]
        have RN := Lib.hid hrn
        have V4 := Lib.hid (VQ.out.ab hb)
        have B4 := Lib.hid (below_tr BQ.out hb BQ.out.size)
        clear hR hF hb hrn hG VQ BQ e39 e40 e41 e42 e43 e44 e45 e46 e47 e48 e49
        generalize vs 50 = q50 at *
        go_wp2_with (refine wpList_appR rfl (.tmp 39) (.tmp 50) rfl V4.out rfl rfl RN.out (by have := LB.out; omega) B4.out.size ?_
                     intro v6 w6 hv6 hg6
                     have V6 := Lib.hid hv6
                     have B6 := Lib.hid (below_grownR B4.out hg6 (own_ge9 V4.out) B4.out.size)
                     clear hv6 hg6)
        go_roundw
        case rel => exact ⟨i + 1, HLT.out, by go_num, by rw [HS.out, hst.out]; exact V6.out, B6.out⟩
        case measure => simp [intOf]; have := HLT.out; omega
      · obtain ⟨L0, r, rfl⟩ : ∃ L0 r, L = L0 ++ [r] := ⟨L.dropLast, L.getLast hL, (List.dropLast_concat_getLast hL).symm⟩
        obtain ⟨g, cap, rfl, hgl⟩ : ∃ g cap, u3 = .slice (some ⟨g, 0, none⟩) (L0.length + 1) cap ∧ g < wr.heap.size := by
          rcases HV.out.2 with ⟨_, h0⟩ | ⟨g, cap, cur, rfl, _, hh, _⟩
          · simp at h0
          · exact ⟨g, cap, by simp, (Array.getElem?_eq_some_iff.1 hh).1⟩
        obtain ⟨k, hk⟩ : ∃ k, L0.length = k := ⟨_, rfl⟩
        rw [hk] at HV ⊢
        obtain ⟨hc, hf, hBg, hset⟩ := HV.out.last hk (p + 1)
        have HSET := Lib.hid hset
        have HBG := Lib.hid hBg
        have hkb : (k : Int) ≤ 100000 := by have := LB.out; rw [List.length_append] at this; omega
        have hk0 : (0 : Int) < (k : Int) + 1 := by omega
        have hk1 : decide ((0 : Int) < (k : Int) + 1) = true := decide_eq_true hk0
        have hkw : IntKind.i64.wrap (k : Int) = (k : Int) := by rw [IntWalk.i64_in _ (by omega)]
        have hksub : (k : Int) + 1 - 1 = (k : Int) := by omega
        have hklt : (k : Int) < (k : Int) + 1 := by omega
        clear hL hset hBg hk hgl
        by_cases hrp : r.2 = p
        · have heq : ((r.2 : Int) == (p : Int)) = true := by rw [hrp]; simp
          have hst : Hid (stepO (L0 ++ [r]) p = L0 ++ [(r.1, p + 1)]) := Lib.hid (by
            have := stepO_near L0 r.1 p
            rw [show r = (r.1, p) from Prod.ext rfl hrp]
            exact this)
          clear hrp
          go_wp2_with fail
          go_quiet (fail)
          go_wp2_with fail
          go_roundw
          case rel => exact ⟨i + 1, HLT.out, by go_num, by rw [HS.out, hst.out]; exact HSET.out, (below_dn HB.out _).setCell (show w.heap.size ≤ (⟨g, k * 2 + 1, none⟩ : Addr).block from HBG.out) _⟩
          case measure => simp [intOf]; have := HLT.out; omega
        · have heq : ((r.2 : Int) == (p : Int)) = false := by rw [beq_eq_false_iff_ne]; omega
          have hst : Hid (stepO (L0 ++ [r]) p = (L0 ++ [r]) ++ [(p, p + 1)]) := Lib.hid (by
            unfold stepO
            simp [hrp])
          clear hrp HSET
          go_wp2_with fail
          go_quiet (fail)
          go_wp2_with fail
          have VQ : Hid (RuB (wr.drewN nq) w.heap.size (.slice (some ⟨g, 0, none⟩) (k + 1) cap) (L0 ++ [r])) := Lib.hid HV.out
          have BQ : Hid (Below w.heap.size w (wr.drewN nq)) := Lib.hid (below_dn HB.out _)
          generalize wr.drewN nq = wq at *
          clear HV HB r0 hc hf
          refine wp_wide3 [⟨39, IsR (.slice (some ⟨g, 0, none⟩) (k + 1) cap), [], false⟩, ⟨40, IsR (.slice (some x) n c), [], false⟩, ⟨41, IsR (.int .i64 (i : Int)), [], false⟩, ⟨42, IsR (.pointer (some (x.add i))), [1, 2], false⟩, ⟨43, IsR (.int .u32 (p : Int)), [3], false⟩, ⟨44, IsR (.slice (some x) n c), [], false⟩, ⟨45, IsR (.int .i64 (i : Int)), [], false⟩, ⟨46, IsR (.pointer (some (x.add i))), [5, 6], false⟩, ⟨47, IsR (.int .u32 (p : Int)), [7], false⟩, ⟨48, IsR (.int .u32 (((p + 1 : Nat)) : Int)), [8], false⟩, ⟨49, IsR (.agg #[.int .u32 (p : Int), .int .u32 (((p + 1 : Nat)) : Int)]), [4, 9], false⟩, ⟨50, (fun z W => ∃ G, z = .slice (some ⟨G, 0, none⟩) 1 1 ∧ RnB W (some ⟨G, 0, none⟩) 1 1 [(p, p + 1)]), [10], false⟩] (by kernel_rfl) (by kernel_rfl) rfl rfl rfl ⟨?_, ?_, ?_, ?_, ?_, ?_, ?_, ?_, ?_, ?_, ?_, ?_, trivial⟩ ?_
          · refine ⟨rfl, IsR.mono _, fun a W hA hb hd => takes_plain rfl (yields_value _ ?_ rfl)⟩
            have h3 : a.tmps[3]?.getD undef = .slice (some ⟨g, 0, none⟩) (k + 1) cap := (eval_get a 3).trans ((hA.eval (by simp)).trans rfl)
            go_simp
          · refine ⟨rfl, IsR.mono _, fun a W hA hb hd => takes_plain rfl (yields_value _ ?_ rfl)⟩
            have h0 : a.tmps[0]?.getD undef = .slice (some x) n c := (eval_get a 0).trans ((hA.eval (by simp)).trans rfl)
            go_simp
          · refine ⟨rfl, IsR.mono _, fun a W hA hb hd => takes_plain rfl (yields_value _ ?_ rfl)⟩
            have h4 : a.tmps[4]?.getD undef = .int .i64 (i : Int) := (eval_get a 4).trans ((hA.eval (by simp)).trans rfl)
            go_simp
          · refine ⟨rfl, IsR.mono _, fun a W hA hb hd => takes_plain rfl (yields_value _ ?_ rfl)⟩
            have h40 : a.tmps[40]?.getD undef = .slice (some x) n c := (eval_get a 40).trans (hd 1 (by simp) _ rfl)
            have h41 : a.tmps[41]?.getD undef = .int .i64 (i : Int) := (eval_get a 41).trans (hd 2 (by simp) _ rfl)
            go_simp
          · refine ⟨rfl, IsR.mono _, fun a W hA hb hd => takes_plain rfl (yields_value _ ?_ rfl)⟩
            have h42 : a.tmps[42]?.getD undef = .pointer (some (x.add i)) := (eval_get a 42).trans (hd 3 (by simp) _ rfl)
            have hc : W.cell? (x.add i) = some (.int .u32 (p : Int)) := KC.out W (below_tr BQ.out hb BQ.out.size)
            go_simp
          · refine ⟨rfl, IsR.mono _, fun a W hA hb hd => takes_plain rfl (yields_value _ ?_ rfl)⟩
            have h0 : a.tmps[0]?.getD undef = .slice (some x) n c := (eval_get a 0).trans ((hA.eval (by simp)).trans rfl)
            go_simp
          · refine ⟨rfl, IsR.mono _, fun a W hA hb hd => takes_plain rfl (yields_value _ ?_ rfl)⟩
            have h4 : a.tmps[4]?.getD undef = .int .i64 (i : Int) := (eval_get a 4).trans ((hA.eval (by simp)).trans rfl)
            go_simp
          · refine ⟨rfl, IsR.mono _, fun a W hA hb hd => takes_plain rfl (yields_value _ ?_ rfl)⟩
            have h44 : a.tmps[44]?.getD undef = .slice (some x) n c := (eval_get a 44).trans (hd 5 (by simp) _ rfl)
            have h45 : a.tmps[45]?.getD undef = .int .i64 (i : Int) := (eval_get a 45).trans (hd 6 (by simp) _ rfl)
            go_simp
          · refine ⟨rfl, IsR.mono _, fun a W hA hb hd => takes_plain rfl (yields_value _ ?_ rfl)⟩
            have h46 : a.tmps[46]?.getD undef = .pointer (some (x.add i)) := (eval_get a 46).trans (hd 7 (by simp) _ rfl)
            have hc : W.cell? (x.add i) = some (.int .u32 (p : Int)) := KC.out W (below_tr BQ.out hb BQ.out.size)
            go_simp
          · refine ⟨rfl, IsR.mono _, fun a W hA hb hd => takes_plain rfl (yields_value _ ?_ rfl)⟩
            have h47 : a.tmps[47]?.getD undef = .int .u32 (p : Int) := (eval_get a 47).trans (hd 8 (by simp) _ rfl)
            have hwp2 := hwp
            go_simp
          · refine ⟨rfl, IsR.mono _, fun a W hA hb hd => takes_plain rfl (yields_value _ ?_ rfl)⟩
            have h43 : a.tmps[43]?.getD undef = .int .u32 (p : Int) := (eval_get a 43).trans (hd 4 (by simp) _ rfl)
            have h48 : a.tmps[48]?.getD undef = .int .u32 (((p + 1 : Nat)) : Int) := (eval_get a 48).trans (hd 9 (by simp) _ rfl)
            go_simp
          · refine ⟨rfl, fun z W W1 ⟨G1, h1, h2⟩ hb => ⟨G1, h1, h2.ab hb⟩, fun a W hA hb hd => takes_plain rfl ?_⟩
            have h49 : a.tmps[49]?.getD undef = .agg #[.int .u32 (p : Int), .int .u32 (((p + 1 : Nat)) : Int)] := (eval_get a 49).trans (hd 10 (by simp) _ rfl)
            refine .inl ⟨.slice (some ⟨W.heap.size, 0, none⟩) 1 1, W.alloc (.cells #[.int .u32 (p : Int), .int .u32 (((p + 1 : Nat)) : Int)] 105), ?_, ⟨_, rfl, one_rn W p (p + 1)⟩, (Below.refl _ _).alloc (Nat.le_refl _) _, fresh_no _ _ _⟩
            go_simp
          intro vs w4 hR hF hb
          obtain ⟨G, hG, hrn⟩ : (∃ G, vs 50 = .slice (some ⟨G, 0, none⟩) 1 1 ∧ RnB w4 (some ⟨G, 0, none⟩) 1 1 [(p, p + 1)]) := hR 11 _ rfl
          have e39 : vs 39 = .slice (some ⟨g, 0, none⟩) (k + 1) cap := hR 0 _ rfl
          have e40 : vs 40 = .slice (some x) n c := hR 1 _ rfl
          have e41 : vs 41 = .int .i64 (i : Int) := hR 2 _ rfl
          have e42 : vs 42 = .pointer (some (x.add i)) := hR 3 _ rfl
          have e43 : vs 43 = .int .u32 (p : Int) := hR 4 _ rfl
          have e44 : vs 44 = .slice (some x) n c := hR 5 _ rfl
          have e45 : vs 45 = .int .i64 (i : Int) := hR 6 _ rfl
          have e46 : vs 46 = .pointer (some (x.add i)) := hR 7 _ rfl
          have e47 : vs 47 = .int .u32 (p : Int) := hR 8 _ rfl
          have e48 : vs 48 = .int .u32 (((p + 1 : Nat)) : Int) := hR 9 _ rfl
          have e49 : vs 49 = .agg #[.int .u32 (p : Int), .int .u32 (((p + 1 : Nat)) : Int)] := hR 10 _ rfl
          simp only [List.map_cons, List.map_nil, List.foldl_cons, List.foldl_nil, List.length_cons, List.length_nil, List.drop_succ_cons, List.drop_zero, Act.put, List.setIfInBounds_toArray, List.set_cons_zero, List.set_cons_succ, e39, e40, e41, e42, e43, e44, e45, e46, e47, e48, e49, hG]
          have RN := Lib.hid hrn
          have V4 := Lib.hid (VQ.out.ab hb)
          have B4 := Lib.hid (below_tr BQ.out hb BQ.out.size)
          clear hR hF hb hrn hG VQ BQ e39 e40 e41 e42 e43 e44 e45 e46 e47 e48 e49
          generalize vs 50 = q50 at *
          go_wp2_with (refine wpList_appR rfl (.tmp 39) (.tmp 50) rfl V4.out rfl rfl RN.out (by have := LB.out; omega) B4.out.size ?_
                       intro v6 w6 hv6 hg6
                       have V6 := Lib.hid hv6
                       have B6 := Lib.hid (below_grownR B4.out hg6 (own_ge9 V4.out) B4.out.size)
                       clear hv6 hg6)
          go_roundw
          case rel => exact ⟨i + 1, HLT.out, by go_num, by rw [HS.out, hst.out]; exact V6.out, B6.out⟩
          case measure => simp [intOf]; have := HLT.out; omega
    · obtain rfl : i = n := by omega
      have hs : Hid (ps.take i = ps) := Lib.hid (List.take_of_length_le (by rw [HL.out]; exact Nat.le_refl _))
      clear hlt hi
      go_wp2_with fail
      go_ret
      exact ⟨_, rfl, by have := HV.out; rw [hs.out] at this; exact this, HB.out⟩
/-- flags -/
def blsV (f : Nat → Bool) (n : Nat) : Array Value := ((List.range n).map fun i => Value.bool (f i)).toArray
def BoB (w : World) (g n : Nat) (f : Nat → Bool) : Prop := w.heap[g]? = some (.cells (blsV f n) 4 (0, 0))
theorem BoB.cell {w : World} {g n i : Nat} {f : Nat → Bool} (h : BoB w g n f) (hi : i < n) : w.cell? ⟨g, i, none⟩ = some (.bool (f i)) := by
  rw [cell_of_row w g i _ _ (0, 0) h]
  simp [blsV, List.getElem?_range hi]
theorem BoB.lt {w : World} {g n : Nat} {f : Nat → Bool} (h : BoB w g n f) : g < w.heap.size := lt_of_block h
theorem BoB.ab {w w' : World} {g n : Nat} {f : Nat → Bool} (h : BoB w g n f) (hb : Below w.heap.size w w') : BoB w' g n f := (hb.block g h.lt).trans h
theorem BoB.free {w : World} {g n : Nat} {f : Nat → Bool} (h : BoB w g n f) (i : Nat) : w.frozen? ⟨g, i, none⟩ = false := frozen_of_row w g i _ _ h
theorem BoB.set {w : World} {g n i : Nat} {f : Nat → Bool} (h : BoB w g n f) (hi : i < n) : BoB (w.setCell ⟨g, i, none⟩ (.bool true)) g n (fun j => f j || decide (j = i)) := by
  have := heap_setCell_same w g i _ _ (.bool true) h
  unfold BoB
  rw [this]
  congr 2
  apply Array.ext_getElem?
  intro j
  rw [Array.getElem?_setIfInBounds]
  simp only [blsV, List.size_toArray, List.length_map, List.length_range, List.getElem?_toArray, List.getElem?_map]
  by_cases e : i = j
  · subst e
    rw [if_pos rfl, if_pos hi, List.getElem?_range hi]
    simp
  · rw [if_neg e]
    by_cases hj : j < n
    · rw [List.getElem?_range hj]
      have : ¬ j = i := fun e2 => e e2.symm
      simp [this]
    · rw [List.getElem?_eq_none (by simp; omega)]
      rfl
theorem BoB.same {w : World} {g n : Nat} {f h : Nat → Bool} (hf : BoB w g n f) (he : ∀ i, i < n → f i = h i) : BoB w g n h := by
  have : blsV f n = blsV h n := by
    unfold blsV
    congr 1
    exact List.map_congr_left fun i hi => by rw [he i (List.mem_range.1 hi)]
  unfold BoB at hf ⊢
  rwa [← this]
theorem infoBo : (Try.prog.info? 4).map (fun i => (i.zero, i.size, i.bytes)) = some (some (.bool false), 1, 1) := by kernel_rfl
theorem make_bo (n : Nat) (hc : n ≤ 100000) (W : World) :
    (Instr.makeSlice 159 (.int .i64 (n : Int)) (.int .i64 (n : Int))).run Try.prog W = .ok (.slice (some ⟨W.heap.size, 0, none⟩) n n) (W.alloc (.cells (blsV (fun _ => false) n) 4)) := by
  obtain ⟨i0, hi0, h0, h1, h2⟩ := info_parts infoBo
  have := run_make (P := Try.prog) W 159 4 i0 _ Try.underlying159 hi0 h0 .i64 .i64 n n (by omega) (by omega) (by rw [h2]; omega) (by omega)
  rw [this, h1]
  simp only [Int.toNat_natCast, Nat.mul_one]
  have he : madeCells #[Value.bool false] n = blsV (fun _ => false) n := by
    apply Array.ext
    · simp [madeCells, blsV]
    · intro i h1 h2
      simp [madeCells, blsV, Nat.mod_one]
  rw [← he]
  rfl
theorem wpList_makeBo {rest : List Oper} {ops : Array Oper} {o : Oper} {a : Act} {w : World} {Q : Exit → Act → World → Prop} (hgd : o.guard = none) (x : Operand) (n : Nat) (hn : n ≤ 100000) (ho : o.op = .makeSlice 159 x x) (hx : a.eval x = .int .i64 (n : Int))
    (h : ∀ w', BoB w' w.heap.size n (fun _ => false) → Below w.heap.size w w' → wpList Try.prog ops Q rest (a.put o.dst (.slice (some ⟨w.heap.size, 0, none⟩) n n)) w') : wpList Try.prog ops Q (o :: rest) a w := by
  refine wpList_plain hgd fun K hK => ?_
  have := make_bo n hn w
  unfold Oper.wp execOp
  simp only [ho, hx, this, Sem.run_bind, Result.andThen_ok, Sem.run_pure]
  exact hK _ _ (h _ (heap_alloc_new w _) ((Below.refl _ _).alloc (Nat.le_refl _) _))
theorem infoU32' : (Try.prog.info? 29).map (fun i => (i.zero, i.size, i.bytes)) = some (some (.int .u32 0), 1, 4) := by kernel_rfl
/-- what is not reached, so far -/
def notIn (ps : List Nat) (m : Nat) : List Nat := (List.range' 2 m).filter fun q => decide (q ∉ ps)
theorem notIn_succ (ps : List Nat) (m : Nat) : notIn ps (m + 1) = notIn ps m ++ (if m + 2 ∈ ps then [] else [m + 2]) := by
  unfold notIn
  rw [show List.range' 2 (m + 1) = List.range' 2 m ++ [2 + m] by rw [List.range'_concat]; simp, List.filter_append]
  by_cases h : m + 2 ∈ ps
  · rw [if_pos h]; simp [show 2 + m = m + 2 by omega, h]
  · rw [if_neg h]; simp [show 2 + m = m + 2 by omega, h]
theorem notIn_len (ps : List Nat) (m : Nat) : (notIn ps m).length ≤ m := Nat.le_trans (List.length_filter_le _ _) (by simp)
set_option maxRecDepth 100000 in
set_option maxHeartbeats 8000000 in
theorem rfFree_any (z : Int) (hzwf : (Lit.int .i64 z).wf = true) (A : Option Addr) (n c : Nat) (l : List Rf) (w : World) (h : RfB w A n c l) (hn : n ≤ 9000) :
    Calls Try.prog 43 #[.int .i64 z, .slice A n c] w (FreeR z (l.map (·.pg)) w) := by
  have HR := Lib.hid h
  have hnb : (n : Int) ≤ 9000 := by omega
  have HN := Lib.hid hn
  have HM := Lib.hid (may08_any z w)
  by_cases hz : z < 8 ∨ 4096 < z
  · have hp : freeP z (l.map (·.pg)) = ([], 2) := by unfold freeP; rw [if_pos hz]
    have hm : (decide (8 ≤ z) && decide (z ≤ 4096)) = false := by
      rw [Bool.and_eq_false_iff]
      rcases hz with hz | hz
      · exact .inl (decide_eq_false (by omega))
      · exact .inr (decide_eq_false (by omega))
    unfold FreeR
    rw [hp]
    rw [hm] at HM
    clear h hn hp hm hz hzwf
    go_enter Try.func43, Try.ntmps43
    go_wp2_with fail
    refine HM.out.mono ?_
    rintro e w1 ⟨rfl, rfl⟩
    go_wp2_with fail
    go_ret2
    exact ⟨_, rfl, RuB.nil _ _, Below.refl _ _⟩
  obtain ⟨b, rfl⟩ : ∃ b : Nat, z = (b : Int) := ⟨z.toNat, by omega⟩
  have hb8 : ¬ (b : Int) < 8 := by omega
  have hb4 : ¬ (4096 : Int) < (b : Int) := by omega
  have hbb : (b : Int) ≤ 4096 := by omega
  have HZ : Hid (8 ≤ b ∧ b ≤ 4096) := Lib.hid (by omega)
  have hm : (decide (8 ≤ (b : Int)) && decide ((b : Int) ≤ 4096)) = true := by
    rw [decide_eq_true (by omega), decide_eq_true (by omega)]; rfl
  rw [hm] at HM
  have HF : Hid (freeP (b : Int) (l.map (·.pg)) = if (l.map (·.pg)).any (fun p => decide (p < 2) || decide (b ≤ p)) = true then ([], 2) else if (l.map (·.pg)).Nodup then (leftO b (l.map (·.pg)), 0) else ([], 8)) := Lib.hid (by unfold freeP; rw [if_neg hz]; rfl)
  have hbw : IntKind.u64.wrap (b : Int) = (b : Int) := wide_u64 b (by omega)
  clear h hn hz hm hzwf
  go_enter Try.func43, Try.ntmps43
  go_wp2_with fail
  refine HM.out.mono ?_
  rintro e w1 ⟨rfl, rfl⟩
  clear HM
  go_wp2_with fail
  go_loopw [6] (fun z wx => ∃ i : Nat, i ≤ n ∧ z = .int .i64 (i : Int) ∧ (∀ p ∈ (l.map (·.pg)).take i, 2 ≤ p ∧ p < b) ∧ w = wx) (fun z _ => n - (intOf z).toNat)
  case atStart => exact ⟨0, Nat.zero_le _, rfl, fun p hp => by simp at hp, rfl⟩
  case round =>
    obtain ⟨i, hi, rfl, hal, rfl⟩ := hrel
    have HA := Lib.hid hal
    clear hal
    by_cases hlt : i < n
    · obtain ⟨r, hr⟩ : ∃ r, l[i]? = some r := ⟨_, List.getElem?_eq_getElem (by rw [HR.out.len]; exact hlt)⟩
      obtain ⟨x, rfl, hxl, hcel⟩ := HR.out.at hr
      have hlti : (i : Int) < (n : Int) := by omega
      have HLT := Lib.hid hlt
      have hpg := (HR.out.ok r (List.mem_of_getElem? hr)).pg
      have HTK : Hid ((l.map (·.pg)).take (i + 1) = (l.map (·.pg)).take i ++ [r.pg]) := Lib.hid (by rw [List.take_add_one, List.getElem?_map, hr]; rfl)
      have HMEM : Hid (r.pg ∈ l.map (·.pg)) := Lib.hid (List.mem_map.2 ⟨r, List.mem_of_getElem? hr, rfl⟩)
      have hwp : IntKind.u64.wrap (r.pg : Int) = (r.pg : Int) := wide_u64 r.pg (by omega)
      have r0 := (hcel w (Below.refl _ _)).1
      clear hlt hi hr hxl hcel hpg
      by_cases h1 : r.pg < 2
      · have d1 : decide ((r.pg : Int) < 2) = true := decide_eq_true (by omega)
        have d2 : (r.pg : Int) < 2 := by omega
        have hs : Hid (freeP (b : Int) (l.map (·.pg)) = ([], 2)) := Lib.hid (by rw [HF.out, if_pos (List.any_eq_true.2 ⟨r.pg, HMEM.out, by simp [h1]⟩)])
        clear h1
        go_wp2_with fail
        go_ret2
        unfold FreeR
        rw [hs.out]
        exact ⟨_, rfl, RuB.nil _ _, Below.refl _ _⟩
      · have d1 : ¬ (r.pg : Int) < 2 := by omega
        by_cases h2 : b ≤ r.pg
        · have d2 : (b : Int) ≤ (r.pg : Int) := by omega
          have d3 : decide (b ≤ r.pg) = true := decide_eq_true h2
          have hs : Hid (freeP (b : Int) (l.map (·.pg)) = ([], 2)) := Lib.hid (by rw [HF.out, if_pos (List.any_eq_true.2 ⟨r.pg, HMEM.out, by simp [h2]⟩)])
          clear h1 h2
          go_wp2_with fail
          go_ret2
          unfold FreeR
          rw [hs.out]
          exact ⟨_, rfl, RuB.nil _ _, Below.refl _ _⟩
        · have d2 : ¬ (b : Int) ≤ (r.pg : Int) := by omega
          have d3 : decide (b ≤ r.pg) = false := decide_eq_false h2
          have hs : Hid (∀ p ∈ (l.map (·.pg)).take (i + 1), 2 ≤ p ∧ p < b) := Lib.hid fun p hp => by
            rw [HTK.out] at hp
            rcases List.mem_append.1 hp with hp | hp
            · exact HA.out p hp
            · rw [List.mem_singleton] at hp
              subst hp
              omega
          clear h1 h2
          go_wp2_with fail
          go_roundw
          case rel => exact ⟨i + 1, HLT.out, by go_num, hs.out, by first | rfl | trivial⟩
          case measure => simp [intOf]; have := HLT.out; omega
    · obtain rfl : i = n := by omega
      have HG : Hid (∀ p ∈ l.map (·.pg), 2 ≤ p ∧ p < b) := Lib.hid (by
        have := HA.out
        rwa [List.take_of_length_le (by rw [List.length_map, HR.out.len]; exact Nat.le_refl _)] at this)
      have HF2 : Hid (freeP (b : Int) (l.map (·.pg)) = if (l.map (·.pg)).Nodup then (leftO b (l.map (·.pg)), 0) else ([], 8)) := Lib.hid (by
        rw [HF.out, if_neg]
        rw [Bool.not_eq_true, List.any_eq_false]
        intro p hp
        have := HG.out p hp
        simp
        omega)
      clear hlt hi HA
      go_wp2_with (refine wpList_makeBo rfl (.tmp 37) b (by have := HZ.out; omega) rfl rfl ?_
                   intro w2 hk2 hb2
                   have K2 := Lib.hid hk2
                   have B2 := Lib.hid hb2
                   clear hk2 hb2)
      have GB : Hid (w.heap.size ≤ w.heap.size) := Lib.hid (Nat.le_refl _)
      obtain ⟨gb, hgb⟩ : ∃ gb, gb = w.heap.size := ⟨_, rfl⟩
      have GE : Hid (w.heap.size ≤ gb) := Lib.hid (Nat.le_of_eq hgb.symm)
      rw [← hgb] at K2 ⊢
      clear hgb GB
      go_loopw [8] (fun z wx => ∃ j : Nat, j ≤ i ∧ z = .int .i64 (j : Int) ∧ ((l.map (·.pg)).take j).Nodup ∧ BoB wx gb b (fun q => decide (q ∈ (l.map (·.pg)).take j)) ∧ Below w.heap.size w wx) (fun z _ => i - (intOf z).toNat)
      case atStart => exact ⟨0, Nat.zero_le _, rfl, List.nodup_nil, K2.out.same (fun q _ => by simp), B2.out⟩
      case round =>
        obtain ⟨j, hj, rfl, hnd, hbo, hb⟩ := hrel
        by_cases hlt : j < i
        · obtain ⟨r, hr⟩ : ∃ r, l[j]? = some r := ⟨_, List.getElem?_eq_getElem (by rw [HR.out.len]; exact hlt)⟩
          obtain ⟨x, rfl, hxl, hcel⟩ := HR.out.at hr
          have hlti : (j : Int) < (i : Int) := by omega
          have HLT := Lib.hid hlt
          have HTK : Hid ((l.map (·.pg)).take (j + 1) = (l.map (·.pg)).take j ++ [r.pg]) := Lib.hid (by rw [List.take_add_one, List.getElem?_map, hr]; rfl)
          have hpg := HG.out _ (List.mem_map.2 ⟨r, List.mem_of_getElem? hr, rfl⟩)
          have hpb : (r.pg : Int) < (b : Int) := by omega
          have r0 := (hcel _ hb).1
          have hbc := hbo.cell hpg.2
          have hfr := hbo.free r.pg
          have HB := Lib.hid hb
          have HBO := Lib.hid hbo
          have HD := Lib.hid hnd
          have PB := Lib.hid hpg.2
          clear hb hbo hnd hxl hcel hlt hj hr hpg
          by_cases hin : r.pg ∈ (l.map (·.pg)).take j
          · rw [decide_eq_true hin] at hbc
            have hs : Hid (freeP (b : Int) (l.map (·.pg)) = ([], 8)) := Lib.hid (by
              rw [HF2.out, if_neg]
              intro hn
              have h2 := (List.take_append_drop (j + 1) (l.map (·.pg))).symm
              rw [h2, List.nodup_append] at hn
              have h3 := hn.1
              rw [HTK.out, List.nodup_append] at h3
              exact h3.2.2 _ hin _ (List.mem_singleton.2 rfl) rfl)
            clear hin
            go_wp2_with fail
            go_ret2
            unfold FreeR
            rw [hs.out]
            exact ⟨_, rfl, RuB.nil _ _, HB.out⟩
          · rw [decide_eq_false hin] at hbc
            have HD2 : Hid (((l.map (·.pg)).take (j + 1)).Nodup) := Lib.hid (by
              rw [HTK.out, List.nodup_append]
              exact ⟨HD.out, by simp, fun a ha c hc e => hin (by rw [List.mem_singleton] at hc; rw [← hc, ← e]; exact ha)⟩)
            have HS := Lib.hid ((HBO.out.set PB.out).same (h := fun q => decide (q ∈ (l.map (·.pg)).take (j + 1))) (fun q _ => by
              rw [HTK.out, ← Bool.decide_or, decide_eq_decide, List.mem_append, List.mem_singleton]))
            clear hin
            go_wp2_with fail
            go_roundw
            case rel => exact ⟨j + 1, HLT.out, by go_num, HD2.out, HS.out, HB.out.setCell (show w.heap.size ≤ (⟨gb, r.pg, none⟩ : Addr).block from GE.out) _⟩
            case measure => simp [intOf]; have := HLT.out; omega
        · obtain rfl : j = i := by omega
          have htk : (l.map (·.pg)).take j = l.map (·.pg) := List.take_of_length_le (by rw [List.length_map, HR.out.len]; exact Nat.le_refl _)
          rw [htk] at hnd hbo
          have hs : Hid (freeP (b : Int) (l.map (·.pg)) = (leftO b (l.map (·.pg)), 0)) := Lib.hid (by rw [HF2.out, if_pos hnd])
          have HB := Lib.hid hb
          have HBO := Lib.hid hbo
          clear hb hbo hnd hlt hj htk HG HF2 HF K2 B2
          obtain ⟨ps, hps⟩ : ∃ ps, l.map (·.pg) = ps := ⟨_, rfl⟩
          rw [hps] at hs HBO
          have HPS := Lib.hid hps
          clear hps
          go_wp2_with fail
          go_loopw [10, 9] (fun z v wx => ∃ m : Nat, m + 2 ≤ b ∧ z = .int .i64 ((m + 2 : Nat) : Int) ∧ wx.ownsRow w.heap.size 29 1 v (notIn ps m).length (((notIn ps m).map fun q : Nat => (q : Int)).map (Value.int .u32)) ∧ BoB wx gb b (fun q => decide (q ∈ ps)) ∧ Below w.heap.size w wx) (fun z _ _ => b - (intOf z).toNat)
          case atStart => exact ⟨0, by have := HZ.out; omega, rfl, World.ownsRow_nil _ _ _ _, HBO.out, HB.out⟩
          case round =>
            obtain ⟨m, hm, rfl, hown, hbo, hb⟩ := hrel
            by_cases hlt : m + 2 < b
            · have hlti : (((m + 2 : Nat)) : Int) < (b : Int) := by omega
              have hlti2 : (m : Int) + 2 < (b : Int) := by omega
              have hwm : IntKind.u32.wrap (((m + 2 : Nat)) : Int) = (((m + 2 : Nat)) : Int) := wrap_u32 _ (by omega) (by omega)
              have hbc := hbo.cell hlt
              have HB2 := Lib.hid hb
              have HBO2 := Lib.hid hbo
              have HOW := Lib.hid hown
              have HLT := Lib.hid hlt
              have HSU := Lib.hid (notIn_succ ps m)
              have HNL := Lib.hid (notIn_len ps m)
              obtain ⟨i0, hi0, hz0, hz1, hz2⟩ := info_parts infoU32'
              clear hb hbo hown hlt hm
              obtain ⟨q, hq⟩ : ∃ q, m + 2 = q := ⟨_, rfl⟩
              have HQ := Lib.hid hq
              by_cases hin : m + 2 ∈ ps
              · have HS : Hid (notIn ps (m + 1) = notIn ps m) := Lib.hid (by rw [HSU.out, if_pos hin, List.append_nil])
                rw [decide_eq_true hin] at hbc
                rw [hq] at hbc hlti hwm ⊢
                have hmq : (m : Int) + 2 = (q : Int) := by omega
                clear hin hq hi0 hz0 hz1 hz2
                go_wp2_with fail
                go_roundw
                case rel => exact ⟨m + 1, by have := HLT.out; omega, by first | (have := HQ.out; congr 1; omega) | (go_num), by rw [HS.out]; exact HOW.out, HBO2.out, HB2.out⟩
                case measure => simp [intOf]; have := HLT.out; have := HQ.out; omega
              · have HS : Hid (notIn ps (m + 1) = notIn ps m ++ [m + 2]) := Lib.hid (by rw [HSU.out, if_neg hin])
                rw [decide_eq_false hin] at hbc
                rw [hq] at hbc hlti hwm HS ⊢
                have hmq : (m : Int) + 2 = (q : Int) := by omega
                have QW : Hid ((Lit.int .u32 (q : Int)).wf = true) := Lib.hid (u32_wf (by unfold u32Ok; have := HZ.out; have := HLT.out; omega))
                clear hin hq
                go_wp2_with (refine wpList_app _ rfl (.tmp 70) (.tmp 73) rfl w.heap.size Try.underlying160 hi0 hz0 hz1 hz2 rfl (k := .u32) (zs := (notIn ps m).map fun q : Nat => (q : Int)) (ys := [(q : Int)]) (A := some ⟨wr.heap.size, 0, none⟩) (m := 1) (c := 1) rfl (by rw [List.length_map]; exact World.ownsRow.kept (row := none) HOW.out (grown_of ((Below.refl _ _).alloc (Nat.le_refl _) _) none) (by rename_i v9; cases hv : Value.ownBlock _ <;> simp)) rfl (isRow_lit wr 29 .u32 [(q : Int)] 1 rfl (by decide) (fun z hz => by rw [List.mem_singleton] at hz; subst hz; exact QW.out)) (by have := HNL.out; have := HZ.out; have := HLT.out; rw [List.length_map]; simp only [maxLen]; omega) (by have := HNL.out; have := HZ.out; have := HLT.out; rw [List.length_map]; omega) (Nat.le_trans HB2.out.size (by simp)) ?_
                             intro v3 w3 h3 hb3 hg3 _
                             have V3 : Hid (w3.ownsRow w.heap.size 29 1 v3 (notIn ps (m + 1)).length (((notIn ps (m + 1)).map fun q : Nat => (q : Int)).map (Value.int .u32))) := Lib.hid (by rw [HS.out]; simpa using h3)
                             have B3 : Hid (Below w.heap.size w w3) := Lib.hid ((HB2.out.alloc HB2.out.size _).trans hb3)
                             have A3 : Below wr.heap.size wr (wr.alloc (.cells ([(q : Int)].map (Value.int .u32)).toArray 29)) := (Below.refl _ _).alloc (Nat.le_refl _) _
                             have N3 : u9.ownBlock ≠ some gb := row_ne HOW.out (show CbB wr gb 4 _ from HBO2.out) (by decide)
                             have K3 : Hid (BoB w3 gb b (fun q => decide (q ∈ ps))) := Lib.hid (CbB.fr (show CbB _ gb 4 _ from HBO2.out.ab A3) (Fr.grown hg3) N3)
                             clear h3 hb3 hg3 A3 N3)
                go_roundw
                case rel => exact ⟨m + 1, by have := HLT.out; omega, by first | (have := HQ.out; congr 1; omega) | (go_num), V3.out, K3.out, B3.out⟩
                case measure => simp [intOf]; have := HLT.out; have := HQ.out; omega
            · obtain ⟨Av, cv, rfl⟩ := row_shape hown
              have hmb : m + 2 = b := by omega
              have hIS : IsRow .u32 wr Av (notIn ps m).length cv ((notIn ps m).map fun q : Nat => (q : Int)) := by
                have h1 := hown
                have h2 : ((notIn ps m).map fun q : Nat => (q : Int)).length = (notIn ps m).length := List.length_map ..
                refine isRow_own h1 (fun z hz => ?_)
                obtain ⟨q, hq, rfl⟩ := List.mem_map.1 hz
                refine u32_wf ?_
                unfold notIn at hq
                rw [List.mem_filter, List.mem_range'_1] at hq
                unfold u32Ok
                have := HZ.out
                omega
              have HB2 := Lib.hid hb
              have HOF := Lib.hid (ofRn_any Av (notIn ps m).length cv (notIn ps m) wr hIS (fun p hp => by
                unfold notIn at hp
                rw [List.mem_filter, List.mem_range'_1] at hp
                have := HZ.out
                omega) (by have := notIn_len ps m; have := HZ.out; omega))
              have HLO : Hid (ofR (notIn ps m) = leftO b ps) := Lib.hid (by unfold leftO notIn; rw [← hmb, Nat.add_sub_cancel])
              have hend : ¬ (m : Int) + 2 < (b : Int) := by omega
              clear hown hbo hb hIS hlt hm
              go_wp2_with fail
              refine HOF.out.mono ?_
              rintro e w4 ⟨v4, rfl, hv4, hb4⟩
              have V4 := Lib.hid (hv4.lower HB2.out.size)
              have B4 := Lib.hid (below_tr HB2.out hb4 HB2.out.size)
              clear hv4 hb4 HOF
              go_wp2_with fail
              go_ret2
              unfold FreeR
              rw [HPS.out, hs.out]
              exact ⟨_, rfl, by rw [← HLO.out]; exact V4.out, B4.out⟩
end Go.Proofs.Ytmeakfocppooiaa
