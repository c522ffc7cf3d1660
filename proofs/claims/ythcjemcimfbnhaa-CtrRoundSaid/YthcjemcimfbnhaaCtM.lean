/-
  CtrRound: the walk.
-/
import Derived.Test.YthcjemcimfbnhaaCtL
import Derived.Test.YthcjemcimfbnhaaFree
namespace Go.Proofs.Ythcjemcimfbnhaa
open Go.RowKit
set_option linter.unusedVariables false

theorem nextC_take {c : List Nat} (lc : c.length = 16) : (nextC c).take 12 = c.take 12 := by
  unfold nextC
  rw [List.take_append_of_le_length (by simp; omega), List.take_of_length_le (by simp; omega)]
theorem nextC_drop {c : List Nat} (lc : c.length = 16) : (nextC c).drop 12 = digB ((numB (c.drop 12) + 1) % 4294967296) 4 := by
  unfold nextC
  rw [List.drop_append_of_le_length (by simp; omega), List.drop_of_length_le (by simp; omega), List.nil_append]
theorem nextC_num {c : List Nat} (lc : c.length = 16) : numB ((nextC c).drop 12) = (numB (c.drop 12) + 1) % 4294967296 := by
  rw [nextC_drop lc, numB_digB _ 4 (Nat.mod_lt _ (by decide))]
theorem nextC_ne {c : List Nat} (hc : Byt c) (lc : c.length = 16) : nextC c ≠ c := by
  intro h
  have h1 := nextC_num lc
  rw [h] at h1
  have := numB_drop12 hc lc
  omega
theorem nextC_inj {c d : List Nat} (hc : Byt c) (lc : c.length = 16) (hd : Byt d) (ld : d.length = 16) (h : nextC c = nextC d) : c = d := by
  have h1 := nextC_num lc
  have h2 := nextC_num ld
  rw [h, h2] at h1
  have b1 := numB_drop12 hc lc
  have b2 := numB_drop12 hd ld
  have h3 : numB (c.drop 12) = numB (d.drop 12) := by omega
  have e1 : c.drop 12 = d.drop 12 := by
    have k1 := digB_numB (c.drop 12) (byt_drop hc 12)
    have k2 := digB_numB (d.drop 12) (byt_drop hd 12)
    rw [← k1, ← k2, h3]
    simp [lc, ld]
  have e2 : c.take 12 = d.take 12 := by rw [← nextC_take lc, ← nextC_take ld, h]
  rw [← List.take_append_drop 12 c, ← List.take_append_drop 12 d, e1, e2]
theorem nextC_iff {c d : List Nat} (hc : Byt c) (lc : c.length = 16) (hd : Byt d) (ld : d.length = 16) : decide (nextC c = nextC d) = decide (c = d) := by
  rw [decide_eq_decide]
  exact ⟨nextC_inj hc lc hd ld, fun h => by rw [h]⟩
set_option maxRecDepth 100000 in
theorem sz12 : (Try.prog.info? 39).map (·.size) = some 12 := by kernel_rfl
theorem eq12 (a b : List Nat) (ha : a.length = 12) (hb : b.length = 12) (w : World) : (Op.equalIn 10000 39 (.agg (bts a)) (.agg (bts b))).run Try.prog w = .ok (decide (a = b)) w := by
  obtain ⟨i, hi, hs⟩ := infoB
  exact run_eq_bytes w 9998 a b Try.underlying39 Try.underlying5 hi hs (by kernel_rfl) ha hb
/-- the first twelve of sixteen -/
theorem exec_load12 {o : Oper} {a : Act} {w : World} (x : Operand) (ho : o.op = .load 39 x) (g : Nat) (hx : a.eval x = .pointer (some ⟨g, 0, none⟩)) {l : List Nat} (hg : Bk w g 23 l) (hl : l.length = 16) :
    (execOp a.eval o).run Try.prog w = .ok (.value (.agg (bts (l.take 12)))) w := by
  have hrun : (Instr.loadAt 39 (.pointer (some ⟨g, 0, none⟩))).run Try.prog w = .ok (.agg (bts (l.take 12))) w := by
    have := run_loadAny (P := Try.prog) w ⟨g, 0, none⟩ 39 (l.take 12) (fun j v hv => by
      rw [List.getElem?_map] at hv
      have hj : j < 12 := by
        rcases Nat.lt_or_ge j 12 with h' | h'
        · exact h'
        · rw [List.getElem?_eq_none (by simp; omega)] at hv; cases hv
      rw [Addr.add_mid, Nat.zero_add, hg.cell (by omega)]
      rw [List.getElem?_eq_getElem (by simp; omega)] at hv
      simp only [Option.map_some, Option.some.injEq] at hv
      rw [← hv]
      simp [List.getElem?_eq_getElem (show j < l.length by omega)]) Try.underlying39 (by rw [List.length_take, hl, sz12]; rfl)
    exact this
  unfold execOp
  simp only [ho, hx, Sem.run_bind, Sem.run_pure, Result.andThen_ok, hrun]
/-- a fresh block of noughts -/
def NewR (w0 : World) (v : Value) (W : World) : Prop := ∃ g, v = .pointer (some ⟨g, 0, none⟩) ∧ Bk W g 23 z16 ∧ w0.heap.size ≤ g
theorem NewR.mono (w0 : World) : Mono (NewR w0) := fun v W W' ⟨g, h1, h2, h3⟩ hb => ⟨g, h1, h2.ab hb, h3⟩
set_option maxRecDepth 100000 in
set_option maxHeartbeats 2000000 in
theorem croundd_any (x y : List Nat) (hx : Byt x) (lx : x.length = 16) (hy : Byt y) (ly : y.length = 16) (w : World) :
    Calls Try.prog 6 #[.agg (bts x), .agg (bts y)] w fun e w' => e = .returned (.bool true) ∧ Below w.heap.size w w' := by
  have XB : Hid (Bk ((w.alloc (.cells (bts x) 23)).alloc (.cells (bts y) 23)) w.heap.size 23 x) := Lib.hid ((Bk.newAt _ x rfl).alloc _)
  have YB : Hid (Bk ((w.alloc (.cells (bts x) 23)).alloc (.cells (bts y) 23)) (w.heap.size + 1) 23 y) := Lib.hid (Bk.newAt _ y (by simp))
  have BB : Hid (Below w.heap.size w ((w.alloc (.cells (bts x) 23)).alloc (.cells (bts y) 23))) := Lib.hid (((Below.refl _ _).alloc (Nat.le_refl _) _).alloc (Nat.le_of_lt (by simp)) _)
  have NX := Lib.hid (fun W => next_any x hx lx W)
  have NY := Lib.hid (fun W => next_any y hy ly W)
  have LX := Lib.hid lx
  have LY := Lib.hid ly
  go_enter Try.func6, Try.ntmps6
  go_wp2_with fail
  obtain ⟨W0, hW0⟩ : ∃ W0, W0 = (w.alloc (.cells (bts x) 23)).alloc (.cells (bts y) 23) := ⟨_, rfl⟩
  rw [← hW0] at XB YB BB ⊢
  clear hW0
  refine wp_free2 [⟨7, IsR (.agg (bts x)), [], false⟩, ⟨8, IsR (.agg (bts (nextC x))), [0], false⟩, ⟨9, IsR (.agg (bts y)), [], false⟩, ⟨10, IsR (.agg (bts (nextC y))), [2], false⟩, ⟨5, NewR W0, [], true⟩, ⟨6, NewR W0, [], true⟩] (by kernel_rfl) (by kernel_rfl) rfl rfl rfl ⟨?_, ?_, ?_, ?_, ?_, ?_, trivial⟩ ?_
  · exact ⟨rfl, rfl, IsR.mono _, fun a W hA hb _ => yields_value _ (exec_loadB 23 (.tmp 2) rfl w.heap.size (by rw [hA.eval (by simp)]; rfl) (XB.out.ab hb) Try.underlying23 (by rw [LX.out]; exact sz16)) rfl⟩
  · refine ⟨rfl, rfl, IsR.mono _, fun a W hA hb hd => ?_⟩
    have h0 : a.tmps[7]?.getD undef = .agg (bts x) := by have h0 : a.eval (.tmp 7) = .agg (bts x) := hd 0 (by simp) _ rfl
                                                         simpa [Act.eval] using h0
    exact yields_call 33 #[.agg (bts x)] (by go_simp) ((NX.out W).mono fun e W' hh => ⟨_, hh.1, rfl, hh.2⟩)
  · exact ⟨rfl, rfl, IsR.mono _, fun a W hA hb _ => yields_value _ (exec_loadB 23 (.tmp 3) rfl (w.heap.size + 1) (by rw [hA.eval (by simp)]; rfl) (YB.out.ab hb) Try.underlying23 (by rw [LY.out]; exact sz16)) rfl⟩
  · refine ⟨rfl, rfl, IsR.mono _, fun a W hA hb hd => ?_⟩
    have h0 : a.tmps[9]?.getD undef = .agg (bts y) := by have h0 : a.eval (.tmp 9) = .agg (bts y) := hd 2 (by simp) _ rfl
                                                         simpa [Act.eval] using h0
    exact yields_call 33 #[.agg (bts y)] (by go_simp) ((NY.out W).mono fun e W' hh => ⟨_, hh.1, rfl, hh.2⟩)
  · exact ⟨rfl, rfl, NewR.mono _, fun a W hA hb _ => .inl ⟨_, W.alloc (.cells (bts z16) 23), by go_simp; rfl, ⟨W.heap.size, rfl, Bk.newAt _ z16 rfl, hb.size⟩, (Below.refl _ _).alloc (Nat.le_refl _) _, fun _ => ⟨W.heap.size, rfl, Nat.le_refl _, by simp⟩⟩⟩
  · exact ⟨rfl, rfl, NewR.mono _, fun a W hA hb _ => .inl ⟨_, W.alloc (.cells (bts z16) 23), by go_simp; rfl, ⟨W.heap.size, rfl, Bk.newAt _ z16 rfl, hb.size⟩, (Below.refl _ _).alloc (Nat.le_refl _) _, fun _ => ⟨W.heap.size, rfl, Nat.le_refl _, by simp⟩⟩⟩
  · intro vs W hR hF hb
    have e7 : vs 7 = .agg (bts x) := hR 0 _ rfl
    have e8 : vs 8 = .agg (bts (nextC x)) := hR 1 _ rfl
    have e9 : vs 9 = .agg (bts y) := hR 2 _ rfl
    have e10 : vs 10 = .agg (bts (nextC y)) := hR 3 _ rfl
    obtain ⟨g5, e5, k5, l5⟩ : NewR W0 (vs 5) W := hR 4 _ rfl
    obtain ⟨g6, e6, k6, l6⟩ : NewR W0 (vs 6) W := hR 5 _ rfl
    have hne : g5 ≠ g6 := by
      have := hF 4 5 _ _ rfl rfl (by decide) rfl rfl
      rw [e5, e6] at this
      intro e
      exact this (by rw [e])
    simp only [List.map_cons, List.map_nil, List.foldl_cons, List.foldl_nil, List.length_cons, List.length_nil, List.drop_succ_cons, List.drop_zero, Act.put, List.setIfInBounds_toArray, List.set_cons_zero, List.set_cons_succ, e5, e6, e7, e8, e9, e10]
    have XB2 := Lib.hid (XB.out.ab hb)
    have YB2 := Lib.hid (YB.out.ab hb)
    have B2 := Lib.hid (below_tr BB.out hb BB.out.size)
    have K5 := Lib.hid k5
    have K6 := Lib.hid k6
    have HNE := Lib.hid hne
    have L5 := Lib.hid l5
    have L6 := Lib.hid l6
    have BS := Lib.hid BB.out.size
    have XL := Lib.hid XB.out.lt
    have YL := Lib.hid YB.out.lt
    clear hR hF hb e5 e6 e7 e8 e9 e10 k5 k6 hne l5 l6 XB YB BB
    have LNX := Lib.hid (nextC_len lx)
    have LNY := Lib.hid (nextC_len ly)
    have TK := nextC_take lx
    have NE := nextC_ne hx lx
    have IFF := nextC_iff hx lx hy ly
    generalize nextC x = nx at *
    generalize nextC y = ny at *
    have T12 : ∀ W, (Op.equalIn 10000 39 (.agg (bts (nx.take 12))) (.agg (bts (x.take 12)))).run Try.prog W = .ok true W := fun W => by
      rw [eq12 _ _ (by simp [LNX.out]) (by simp [LX.out]) W, decide_eq_true TK]
    have TNE : ∀ W, (Op.equalIn 10000 23 (.agg (bts nx)) (.agg (bts x))).run Try.prog W = .ok false W := fun W => by
      rw [eq16 _ _ LNX.out LX.out W, decide_eq_false NE]
    obtain ⟨q, hq⟩ : ∃ q, decide (x = y) = q := ⟨_, rfl⟩
    have TXY : ∀ W, (Op.equalIn 10000 23 (.agg (bts x)) (.agg (bts y))).run Try.prog W = .ok q W := fun W => by
      rw [eq16 _ _ LX.out LY.out W, hq]
    have TNN : ∀ W, (Op.equalIn 10000 23 (.agg (bts nx)) (.agg (bts ny))).run Try.prog W = .ok q W := fun W => by
      rw [eq16 _ _ LNX.out LNY.out W, IFF, hq]
    clear TK NE IFF hq
    refine wpList_storeN (l := z16) rfl 23 (.tmp 5) (.tmp 8) rfl g5 rfl nx rfl (t := 23) K5.out (by rw [LNX.out]; exact sz16) (by rw [LNX.out]; rfl) ?_
    intro W1 hW1
    have A5 : Hid (Bk W1 g5 23 nx) := Lib.hid (by rw [hW1]; exact K5.out.row _)
    have A6 : Hid (Bk W1 g6 23 z16) := Lib.hid (by rw [hW1]; exact K6.out.rowFar (Ne.symm HNE.out) _)
    have AX : Hid (Bk W1 w.heap.size 23 x) := Lib.hid (by rw [hW1]; exact XB2.out.rowFar (by have := L5.out; have := XL.out; omega) _)
    have AY : Hid (Bk W1 (w.heap.size + 1) 23 y) := Lib.hid (by rw [hW1]; exact YB2.out.rowFar (by have := L5.out; have := YL.out; omega) _)
    have AB : Hid (Below w.heap.size w W1) := Lib.hid (by rw [hW1]; exact Below.row B2.out (by have := L5.out; have := BS.out; omega) _)
    clear hW1
    refine wpList_storeN (l := z16) rfl 23 (.tmp 6) (.tmp 10) rfl g6 rfl ny rfl (t := 23) A6.out (by rw [LNY.out]; exact sz16) (by rw [LNY.out]; rfl) ?_
    intro W2 hW2
    have C5 : Hid (Bk W2 g5 23 nx) := Lib.hid (by rw [hW2]; exact A5.out.rowFar HNE.out _)
    have C6 : Hid (Bk W2 g6 23 ny) := Lib.hid (by rw [hW2]; exact A6.out.row _)
    have CX : Hid (Bk W2 w.heap.size 23 x) := Lib.hid (by rw [hW2]; exact AX.out.rowFar (by have := L6.out; have := XL.out; omega) _)
    have CY : Hid (Bk W2 (w.heap.size + 1) 23 y) := Lib.hid (by rw [hW2]; exact AY.out.rowFar (by have := L6.out; have := YL.out; omega) _)
    have CB : Hid (Below w.heap.size w W2) := Lib.hid (by rw [hW2]; exact Below.row AB.out (by have := L6.out; have := BS.out; omega) _)
    clear hW2 K5 K6 XB2 YB2 B2 A5 A6 AX AY AB
    go_wp2_with fail
    refine wp_quiet_tail 24 (AbW W2.drew) (AbW.refl _) (by kernel_rfl) (by kernel_rfl) ?_
    simp only [List.take_succ_cons, List.take_zero, List.drop_succ_cons, List.drop_zero]
    refine quiet_value (v := ?qv0) (by rfl) ?qh0 ?qk0
    case qh0 => (intro w' hw'; go_simp; rfl)
    simp only [Act.put, List.setIfInBounds_toArray, List.set_cons_zero, List.set_cons_succ]
    refine quiet_value (v := ?qv1) (by rfl) ?qh1 ?qk1
    case qh1 => (intro w' hw'; go_simp; rfl)
    simp only [Act.put, List.setIfInBounds_toArray, List.set_cons_zero, List.set_cons_succ]
    refine quiet_value (v := .agg (bts (nx.take 12))) (by rfl) (fun w' h => exec_load12 (.tmp 12) rfl g5 rfl (C5.out.drew.ab h) LNX.out) ?_
    simp only [Act.put, List.setIfInBounds_toArray, List.set_cons_zero, List.set_cons_succ]
    refine quiet_value (v := ?qv3) (by rfl) ?qh3 ?qk3
    case qh3 => (intro w' hw'; go_simp; rfl)
    simp only [Act.put, List.setIfInBounds_toArray, List.set_cons_zero, List.set_cons_succ]
    refine quiet_value (v := ?qv4) (by rfl) ?qh4 ?qk4
    case qh4 => (intro w' hw'; go_simp; rfl)
    simp only [Act.put, List.setIfInBounds_toArray, List.set_cons_zero, List.set_cons_succ]
    refine quiet_value (v := .agg (bts (x.take 12))) (by rfl) (fun w' h => exec_load12 (.tmp 15) rfl w.heap.size rfl (CX.out.drew.ab h) LX.out) ?_
    simp only [Act.put, List.setIfInBounds_toArray, List.set_cons_zero, List.set_cons_succ]
    refine quiet_value (v := ?qv6) (by rfl) ?qh6 ?qk6
    case qh6 => (intro w' hw'; go_simp; rfl)
    simp only [Act.put, List.setIfInBounds_toArray, List.set_cons_zero, List.set_cons_succ]
    refine quiet_value (v := ?qv7) (by rfl) ?qh7 ?qk7
    case qh7 => (intro w' hw'; go_simp; rfl)
    simp only [Act.put, List.setIfInBounds_toArray, List.set_cons_zero, List.set_cons_succ]
    refine quiet_loadB (l := nx) (t := 23) (by rfl) 23 (.tmp 5) rfl g5 rfl (fun w' h => C5.out.drew.ab h) Try.underlying23 (by rw [LNX.out]; exact sz16) ?_
    simp only [Act.put, List.setIfInBounds_toArray, List.set_cons_zero, List.set_cons_succ]
    refine quiet_loadB (l := x) (t := 23) (by rfl) 23 (.tmp 2) rfl w.heap.size rfl (fun w' h => CX.out.drew.ab h) Try.underlying23 (by rw [LX.out]; exact sz16) ?_
    simp only [Act.put, List.setIfInBounds_toArray, List.set_cons_zero, List.set_cons_succ]
    refine quiet_value (v := ?qv10) (by rfl) ?qh10 ?qk10
    case qh10 => (intro w' hw'; go_simp; rfl)
    simp only [Act.put, List.setIfInBounds_toArray, List.set_cons_zero, List.set_cons_succ]
    refine quiet_value (v := ?qv11) (by rfl) ?qh11 ?qk11
    case qh11 => (intro w' hw'; go_simp; rfl)
    simp only [Act.put, List.setIfInBounds_toArray, List.set_cons_zero, List.set_cons_succ]
    refine quiet_value (v := ?qv12) (by rfl) ?qh12 ?qk12
    case qh12 => (intro w' hw'; go_simp; rfl)
    simp only [Act.put, List.setIfInBounds_toArray, List.set_cons_zero, List.set_cons_succ]
    refine quiet_loadB (l := nx) (t := 23) (by rfl) 23 (.tmp 5) rfl g5 rfl (fun w' h => C5.out.drew.ab h) Try.underlying23 (by rw [LNX.out]; exact sz16) ?_
    simp only [Act.put, List.setIfInBounds_toArray, List.set_cons_zero, List.set_cons_succ]
    refine quiet_loadB (l := ny) (t := 23) (by rfl) 23 (.tmp 6) rfl g6 rfl (fun w' h => C6.out.drew.ab h) Try.underlying23 (by rw [LNY.out]; exact sz16) ?_
    simp only [Act.put, List.setIfInBounds_toArray, List.set_cons_zero, List.set_cons_succ]
    refine quiet_value (v := ?qv15) (by rfl) ?qh15 ?qk15
    case qh15 => (intro w' hw'; go_simp; rfl)
    simp only [Act.put, List.setIfInBounds_toArray, List.set_cons_zero, List.set_cons_succ]
    refine quiet_loadB (l := x) (t := 23) (by rfl) 23 (.tmp 2) rfl w.heap.size rfl (fun w' h => CX.out.drew.ab h) Try.underlying23 (by rw [LX.out]; exact sz16) ?_
    simp only [Act.put, List.setIfInBounds_toArray, List.set_cons_zero, List.set_cons_succ]
    refine quiet_loadB (l := y) (t := 23) (by rfl) 23 (.tmp 3) rfl (w.heap.size + 1) rfl (fun w' h => CY.out.drew.ab h) Try.underlying23 (by rw [LY.out]; exact sz16) ?_
    simp only [Act.put, List.setIfInBounds_toArray, List.set_cons_zero, List.set_cons_succ]
    refine quiet_value (v := ?qv18) (by rfl) ?qh18 ?qk18
    case qh18 => (intro w' hw'; go_simp; rfl)
    simp only [Act.put, List.setIfInBounds_toArray, List.set_cons_zero, List.set_cons_succ]
    refine quiet_value (v := ?qv19) (by rfl) ?qh19 ?qk19
    case qh19 => (intro w' hw'; go_simp; rfl)
    simp only [Act.put, List.setIfInBounds_toArray, List.set_cons_zero, List.set_cons_succ]
    refine quiet_value (v := ?qv20) (by rfl) ?qh20 ?qk20
    case qh20 => (intro w' hw'; go_simp; rfl)
    simp only [Act.put, List.setIfInBounds_toArray, List.set_cons_zero, List.set_cons_succ]
    refine quiet_value (v := ?qv21) (by rfl) ?qh21 ?qk21
    case qh21 => (intro w' hw'; go_simp; rfl)
    simp only [Act.put, List.setIfInBounds_toArray, List.set_cons_zero, List.set_cons_succ]
    refine quiet_call (v := .bool true) (f := 35) (args := #[]) (by rfl) (fun w' => by go_simp) (fun w' h => known5_ab w' h) ?_
    simp only [Act.put, List.setIfInBounds_toArray, List.set_cons_zero, List.set_cons_succ]
    refine quiet_value (v := ?qv23) (by rfl) ?qh23 ?qk23
    case qh23 => (intro w' hw'; go_simp; rfl)
    simp only [Act.put, List.setIfInBounds_toArray, List.set_cons_zero, List.set_cons_succ]
    refine wpQuiet_nil ?_
    intro w6 h6
    have B6 : Hid (Below w.heap.size w w6) := Lib.hid (below_tr CB.out.drew h6 CB.out.size)
    clear h6
    go_wp2_with fail
    go_ret
    exact ⟨rfl, B6.out⟩
set_option maxRecDepth 100000 in
theorem cround_walk (v v' : Value) (w : World) (hk : ∃ base, Value.okWide Try.prog w .any base 23 v) {H : Type} {enc : TypeId × Value → H} {d : DataW H} {p : List MemPlace} (_ : DataW.Trod enc Try.prog w 0 (fun _ => true) true 23 v d p) (_ : ∀ x ∈ p, x.block < w.heap.size)
    (hk' : ∃ base, Value.okWide Try.prog w .any base 23 v') {d' : DataW H} {p' : List MemPlace} (_ : DataW.Trod enc Try.prog w 0 (fun _ => true) true 23 v' d' p') (_ : ∀ x ∈ p', x.block < w.heap.size) :
    Calls Try.prog 6 #[v, v'] w fun e w' => e = .returned (.bool true) ∧ Below w.heap.size w w' := by
  obtain ⟨base, hk⟩ := hk
  obtain ⟨x, rfl, hx, lx⟩ := open16' hk
  obtain ⟨base', hk'⟩ := hk'
  obtain ⟨y, rfl, hy, ly⟩ := open16' hk'
  exact croundd_any x y hx lx hy ly w
end Go.Proofs.Ythcjemcimfbnhaa
