/-
  HierWraps, HierUnwraps: the walks.
-/
import Derived.Test.YtpofndciepoooaaHiC
namespace Go.Proofs.Ytpofndciepoooaa
open Go.RowKit Go.ChangeShapes Go.WideShapes
set_option linter.unusedVariables false

section
variable {H : Type} {enc : TypeId × Value → H} {P : Program} {W : World}
theorem trod_struct3 {t : TypeId} {f0 f1 f2 : Field} {base : Nat} {spare : Nat → Bool} {held : Bool} {fuel : Nat} {cs : List Value} {x : DataW H × List MemPlace} (ht : P.underlying t = some (.struct #[f0, f1, f2])) (h : DataW.trod enc P W base spare held fuel t cs = some x) :
    ∃ y0 y1 y2 n, x = (.agg [y0.1, y1.1, y2.1], y0.2 ++ (y1.2 ++ y2.2)) ∧ cs.length = P.cellsOf t ∧ DataW.trod enc P W base spare held n f0.type ((cs.drop f0.offset).take (P.cellsOf f0.type)) = some y0 ∧
      DataW.trod enc P W base spare held n f1.type ((cs.drop f1.offset).take (P.cellsOf f1.type)) = some y1 ∧ DataW.trod enc P W base spare held n f2.type ((cs.drop f2.offset).take (P.cellsOf f2.type)) = some y2 := by
  obtain ⟨xs, n, _, rfl, hl, hlen, hf⟩ := DataW.trod_struct ht h
  match xs, hlen with
  | [y0, y1, y2], _ => exact ⟨y0, y1, y2, n, by simp, hl, by simpa using hf 0 f0 rfl, by simpa using hf 1 f1 rfl, by simpa using hf 2 f2 rfl⟩
end
theorem array3 {α : Type} {cs : Array α} (h : cs.size = 3) : ∃ c0 c1 c2, cs = #[c0, c1, c2] := by
  obtain ⟨l⟩ := cs
  match l, h with
  | [c0, c1, c2], _ => exact ⟨c0, c1, c2, rfl⟩
theorem nat_wf16 {z : Int} (h : (Lit.int .u16 z).wf = true) : ∃ n : Nat, z = (n : Int) ∧ n < 65536 := by
  simp only [Lit.wf, Bool.and_eq_true, decide_eq_true_eq] at h
  have m1 : IntKind.u16.min = 0 := rfl
  have m2 : IntKind.u16.max = 65535 := rfl
  exact ⟨z.toNat, by omega, by omega⟩
theorem nat_wf32 {z : Int} (h : (Lit.int .u32 z).wf = true) : ∃ n : Nat, z = (n : Int) ∧ n < 4294967296 := by
  simp only [Lit.wf, Bool.and_eq_true, decide_eq_true_eq] at h
  have m1 : IntKind.u32.min = 0 := rfl
  have m2 : IntKind.u32.max = 4294967295 := rfl
  exact ⟨z.toNat, by omega, by omega⟩
theorem nat_wf64 {z : Int} (h : (Lit.int .u64 z).wf = true) : ∃ n : Nat, z = (n : Int) ∧ n < 18446744073709551616 := by
  simp only [Lit.wf, Bool.and_eq_true, decide_eq_true_eq] at h
  have m1 : IntKind.u64.min = 0 := rfl
  have m2 : IntKind.u64.max = 18446744073709551615 := rfl
  exact ⟨z.toNat, by omega, by omega⟩
set_option maxRecDepth 100000 in
theorem open_held {H : Type} {enc : TypeId × Value → H} {W : World} {base : Nat} {v : Value} {d : DataW H} {p : List MemPlace} (hk : Value.okWide Try.prog W .any base 67 v)
    (h : DataW.Trod enc Try.prog W 0 (fun _ => true) true 67 v d p) (hlt : ∀ x ∈ p, x.block < W.heap.size) :
    ∃ (gn cm : Nat) (sA : Option Addr) (sn sc : Nat) (s : List Nat), v = .agg #[.int .u16 (gn : Int), .int .u64 (cm : Int), .slice sA sn sc] ∧ IsB W sA sn sc s ∧ gn < 65536 ∧ cm < 18446744073709551616 := by
  obtain ⟨cs, rfl, hs⟩ := okWide_struct Try.underlying67 hk
  have hc3 : Try.prog.cellsOf 67 = 3 := by kernel_rfl
  rw [hc3] at hs
  obtain ⟨c0, c1, c2, rfl⟩ := array3 hs
  obtain ⟨fuel, hf⟩ := h
  obtain ⟨y0, y1, y2, n, hx, -, h0, h1, h2⟩ := trod_struct3 Try.underlying67 hf
  have cb : Try.prog.cellsOf 22 = 1 := by kernel_rfl
  have c16 : Try.prog.cellsOf 50 = 1 := by kernel_rfl
  have c64 : Try.prog.cellsOf 49 = 1 := by kernel_rfl
  have c8 : Try.prog.cellsOf 5 = 1 := by kernel_rfl
  have hp : p = y0.2 ++ (y1.2 ++ y2.2) := by simpa using congrArg (·.2) hx
  simp only [Value.cells, cb, c16, c64] at h0 h1 h2
  obtain ⟨z, e0, w0⟩ := int_trod Try.underlying50 h0
  obtain ⟨y, e1, w1⟩ := int_trod Try.underlying49 h1
  obtain ⟨sA, sn, sc, s, e2, i2⟩ := isB_trod Try.underlying22 Try.underlying5 c8 h2 (fun q hq => hlt q (by rw [hp]; simp [hq]))
  simp at e0 e1 e2
  subst e0 e1 e2
  obtain ⟨gn, rfl, hg⟩ := nat_wf16 w0
  obtain ⟨cm, rfl, hc⟩ := nat_wf64 w1
  exact ⟨gn, cm, sA, sn, sc, s, rfl, i2, hg, hc⟩
/-- a fresh wrapped key of noughts -/
def NewH (w0 : World) (v : Value) (W : World) : Prop := ∃ g, v = .pointer (some ⟨g, 0, none⟩) ∧ HdB W g #[.int .u16 0, .int .u64 0, .slice none 0 0] ∧ w0.heap.size ≤ g
theorem NewH.mono (w0 : World) : Mono (NewH w0) := fun v W W' ⟨g, h1, h2, h3⟩ hb => ⟨g, h1, h2.ab hb, h3⟩
theorem yields_newH {o : Oper} {a : Act} {W w0 : World} (hr : (execOp a.eval o).run Try.prog W = .ok (.value (.pointer (some ⟨W.heap.size, 0, none⟩))) (W.alloc (.cells #[.int .u16 0, .int .u64 0, .slice none 0 0] 67))) (hb : Below w0.heap.size w0 W) : Yields Try.prog o a W false (NewH w0) :=
  .inl ⟨_, _, hr, ⟨W.heap.size, rfl, heap_alloc_new W _, hb.size⟩, (Below.refl _ _).alloc (Nat.le_refl _) _, fresh_no _ _ _⟩
/-- a wrapped key whose bytes are the call's own -/
def AggO (B gn cm : Nat) (l : List Nat) (v : Value) (W : World) : Prop := ∃ v0, v = .agg #[.int .u16 (gn : Int), .int .u64 (cm : Int), v0] ∧ OwB W B v0 l
theorem AggO.mono (B gn cm : Nat) (l : List Nat) : Mono (AggO B gn cm l) := fun v W W' ⟨v0, h1, h2⟩ hb => ⟨v0, h1, h2.ab hb⟩
def LentR (n : Nat) (l : List Nat) (v : Value) (W : World) : Prop := ∃ g d, v = .slice (some ⟨g, 0, none⟩) n d ∧ LentB W g n d l
theorem LentR.mono (n : Nat) (l : List Nat) : Mono (LentR n l) := fun v W W' ⟨g, d, h1, h2⟩ hb => ⟨g, d, h1, h2.ab hb⟩
def AggL (gn cm n : Nat) (l : List Nat) (v : Value) (W : World) : Prop := ∃ g d, v = .agg #[.int .u16 (gn : Int), .int .u64 (cm : Int), .slice (some ⟨g, 0, none⟩) n d] ∧ LentB W g n d l
theorem AggL.mono (gn cm n : Nat) (l : List Nat) : Mono (AggL gn cm n l) := fun v W W' ⟨g, d, h1, h2⟩ hb => ⟨g, d, h1, h2.ab hb⟩
theorem boxH (w : World) (x : Array Value) : HdB (w.alloc (.cells x 67)) w.heap.size x := heap_alloc_new w _
theorem boxB (w : World) (x : Array Value) : Below w.heap.size w (w.alloc (.cells x 67)) := (Below.refl _ _).alloc (Nat.le_refl _) _
theorem lent_ne {w : World} {g g7 n d : Nat} {l : List Nat} {cs : Array Value} (h : LentB w g n d l) (k : HdB w g7 cs) : g ≠ g7 := by
  intro e
  subst e
  obtain ⟨c0, h⟩ := h.row
  have := h.symm.trans k
  simp at this
set_option maxRecDepth 100000 in
set_option maxHeartbeats 8000000 in
theorem unwraps_ok (A sA : Option Addr) ( c sc ten gn cm : Nat) (root s : List Nat) (w : World) (ir : IsB w A 32 c root) (is : IsB w sA 32 sc s) (ht : ten < 4294967296) (hg : gn < 65536) (hc : cm < 18446744073709551616) :
    Calls Try.prog 18 #[.slice A 32 c, .int .u32 (ten : Int), .agg #[.int .u16 (gn : Int), .int .u64 (cm : Int), .slice sA 32 sc]] w fun e w' => e = .returned (.bool true) ∧ Below w.heap.size w w' := by
  have IR : Hid (IsB (w.alloc (.cells #[.int .u16 (gn : Int), .int .u64 (cm : Int), .slice sA 32 sc] 67)) A 32 c root) := Lib.hid (ir.alloc _)
  have IS : Hid (IsB (w.alloc (.cells #[.int .u16 (gn : Int), .int .u64 (cm : Int), .slice sA 32 sc] 67)) sA 32 sc s) := Lib.hid (is.alloc _)
  have R0 : Hid (HdB (w.alloc (.cells #[.int .u16 (gn : Int), .int .u64 (cm : Int), .slice sA 32 sc] 67)) w.heap.size #[.int .u16 (gn : Int), .int .u64 (cm : Int), .slice sA 32 sc]) := Lib.hid (boxH w _)
  have B0 : Hid (Below w.heap.size w (w.alloc (.cells #[.int .u16 (gn : Int), .int .u64 (cm : Int), .slice sA 32 sc] 67))) := Lib.hid (boxB w _)
  have hun := fun g d W h1 h2 => unwrap_any A (some ⟨g, 0, none⟩) 32 c 32 d ten gn cm root s W h1 h2 ht hg hc
  have hru := fun W h1 h2 => runwrap_any A sA c sc ten gn cm root s W h1 h2 ht hg hc
  rw [if_pos ⟨rfl, rfl⟩] at hun
  generalize unwrapA root ten gn cm s = O at *
  obtain ⟨out, err⟩ := O
  have RU := Lib.hid hru
  clear hru
  have UN := Lib.hid hun
  have SN : Hid (32 ≤ 1000000) := Lib.hid (by omega)
  clear ir is ht hg hc hun
  obtain ⟨x0, x1, x2⟩ := R0.out.cells
  go_enter Try.func18, Try.ntmps18
  go_wp2_with fail
  obtain ⟨W0, hW0⟩ : ∃ W0, W0 = (w.alloc (.cells #[.int .u16 (gn : Int), .int .u64 (cm : Int), .slice sA 32 sc] 67)) := ⟨_, rfl⟩
  change Code.wp _ _ _ _ (w.alloc (.cells #[.int .u16 (gn : Int), .int .u64 (cm : Int), .slice sA 32 sc] 67))
  rw [← hW0] at IR IS R0 B0 ⊢
  clear hW0 x0 x1 x2
  refine wp_wide3 [⟨22, IsR (.pointer (some ⟨w.heap.size, 0, none⟩)), [], false⟩, ⟨23, IsR (.int .u16 (gn : Int)), [0], false⟩, ⟨24, IsR (.pointer (some ⟨w.heap.size, 1, none⟩)), [], false⟩, ⟨25, IsR (.int .u64 (cm : Int)), [2], false⟩, ⟨26, IsR (.pointer (some ⟨w.heap.size, 2, none⟩)), [], false⟩, ⟨27, IsR (.slice sA 32 sc), [4], false⟩, ⟨28, LentR 32 s, [5], false⟩, ⟨29, AggL gn cm 32 s, [1, 3, 6], false⟩, ⟨7, NewH W0, [], false⟩] (by kernel_rfl) (by kernel_rfl) rfl rfl rfl ⟨?_, ?_, ?_, ?_, ?_, ?_, ?_, ?_, ?_, trivial⟩ ?_
  · refine ⟨rfl, IsR.mono _, fun a W hA hb hd => takes_plain rfl (yields_value _ ?_ rfl)⟩
    have h5 : a.tmps[5]?.getD undef = .pointer (some ⟨w.heap.size, 0, none⟩) := (eval_get a 5).trans ((hA.eval (by simp)).trans rfl)
    go_simp
  · refine ⟨rfl, IsR.mono _, fun a W hA hb hd => takes_plain rfl (yields_value _ ?_ rfl)⟩
    have h22 : a.tmps[22]?.getD undef = .pointer (some ⟨w.heap.size, 0, none⟩) := (eval_get a 22).trans (hd 0 (by simp) _ rfl)
    obtain ⟨x0, x1, x2⟩ := (R0.out.ab hb).cells
    go_simp
  · refine ⟨rfl, IsR.mono _, fun a W hA hb hd => takes_plain rfl (yields_value _ ?_ rfl)⟩
    have h5 : a.tmps[5]?.getD undef = .pointer (some ⟨w.heap.size, 0, none⟩) := (eval_get a 5).trans ((hA.eval (by simp)).trans rfl)
    go_simp
  · refine ⟨rfl, IsR.mono _, fun a W hA hb hd => takes_plain rfl (yields_value _ ?_ rfl)⟩
    have h24 : a.tmps[24]?.getD undef = .pointer (some ⟨w.heap.size, 1, none⟩) := (eval_get a 24).trans (hd 2 (by simp) _ rfl)
    obtain ⟨x0, x1, x2⟩ := (R0.out.ab hb).cells
    go_simp
  · refine ⟨rfl, IsR.mono _, fun a W hA hb hd => takes_plain rfl (yields_value _ ?_ rfl)⟩
    have h5 : a.tmps[5]?.getD undef = .pointer (some ⟨w.heap.size, 0, none⟩) := (eval_get a 5).trans ((hA.eval (by simp)).trans rfl)
    go_simp
  · refine ⟨rfl, IsR.mono _, fun a W hA hb hd => takes_plain rfl (yields_value _ ?_ rfl)⟩
    have h26 : a.tmps[26]?.getD undef = .pointer (some ⟨w.heap.size, 2, none⟩) := (eval_get a 26).trans (hd 4 (by simp) _ rfl)
    obtain ⟨x0, x1, x2⟩ := (R0.out.ab hb).cells
    go_simp
  · refine ⟨rfl, LentR.mono _ _, fun a W hA hb hd => takes_plain rfl ?_⟩
    have h27 : a.tmps[27]?.getD undef = .slice sA 32 sc := (eval_get a 27).trans (hd 5 (by simp) _ rfl)
    refine yields_call 53 #[.slice sA 32 sc] (by go_simp) ((lent_any sA 32 sc s W (IS.out.ab hb) SN.out).mono ?_)
    rintro e W1 ⟨g1, d1, rfl, hl1, hb1⟩
    exact ⟨_, rfl, ⟨g1, d1, rfl, hl1⟩, hb1⟩
  · refine ⟨rfl, AggL.mono _ _ _ _, fun a W hA hb hd => takes_plain rfl ?_⟩
    obtain ⟨g1, d1, e1, hl1⟩ := hd 6 (by simp) _ rfl
    have h28 : a.tmps[28]?.getD undef = .slice (some ⟨g1, 0, none⟩) 32 d1 := (eval_get a 28).trans e1
    have h23 : a.tmps[23]?.getD undef = .int .u16 (gn : Int) := (eval_get a 23).trans (hd 1 (by simp) _ rfl)
    have h25 : a.tmps[25]?.getD undef = .int .u64 (cm : Int) := (eval_get a 25).trans (hd 3 (by simp) _ rfl)
    refine yields_value (.agg #[.int .u16 (gn : Int), .int .u64 (cm : Int), .slice (some ⟨g1, 0, none⟩) 32 d1]) ?_ ⟨g1, d1, rfl, hl1⟩
    go_simp
  · refine ⟨rfl, NewH.mono _, fun a W hA hb hd => takes_plain rfl ?_⟩
    refine yields_newH ?_ hb
    go_simp
  intro vs w9 hR hF hb
  obtain ⟨g, d, e29, hl⟩ : AggL gn cm 32 s (vs 29) w9 := hR 7 _ rfl
  obtain ⟨g7, e7, k7, l7⟩ : NewH W0 (vs 7) w9 := hR 8 _ rfl
  simp only [List.map_cons, List.map_nil, List.foldl_cons, List.foldl_nil, List.length_cons, List.length_nil, List.drop_succ_cons, List.drop_zero, Act.put, List.setIfInBounds_toArray, List.set_cons_zero, List.set_cons_succ, e29, e7]
  generalize vs 22 = q22 at *
  generalize vs 23 = q23 at *
  generalize vs 24 = q24 at *
  generalize vs 25 = q25 at *
  generalize vs 26 = q26 at *
  generalize vs 27 = q27 at *
  generalize vs 28 = q28 at *
  have K7 := Lib.hid k7
  have HL := Lib.hid hl
  have NG : Hid (g ≠ g7) := Lib.hid (lent_ne hl k7)
  have B7 : Hid (∀ cs, Below W0.heap.size W0 (w9.setRow g7 cs)) := Lib.hid fun cs => Below.row hb l7 cs
  clear hR hF hb e29 e7 k7 l7 hl
  refine wpList_store3 rfl (.tmp 7) (.tmp 29) rfl g7 rfl #[.int .u16 (gn : Int), .int .u64 (cm : Int), .slice (some ⟨g, 0, none⟩) 32 d] rfl rfl (by simp [Value.oneCell']) K7.out rfl ?_
  intro w6 hw6
  have hb6 : Below W0.heap.size W0 w6 := by rw [hw6]; exact B7.out _
  have K6 : Hid (HdB w6 g7 #[.int .u16 (gn : Int), .int .u64 (cm : Int), .slice (some ⟨g, 0, none⟩) 32 d]) := Lib.hid (by rw [hw6]; exact K7.out.row _)
  have L6 : Hid (LentB w6 g 32 d s) := Lib.hid (by rw [hw6]; exact HL.out.rowFar NG.out _)
  have R6 := Lib.hid (R0.out.ab hb6)
  have IR6 := Lib.hid (IR.out.ab hb6)
  have IS6 := Lib.hid (IS.out.ab hb6)
  have B6 := Lib.hid (below_tr B0.out hb6 B0.out.size)
  clear hw6 hb6 K7 HL NG B7 R0 IR IS B0
  obtain ⟨p0, p1, p2⟩ := K6.out.cells
  go_wp2_with fail
  refine (UN.out g d w6 IR6.out L6.out.isB).mono ?_
  rintro e w7 ⟨v, rfl, hv, hb⟩
  obtain ⟨A7, c7, rfl, -, -⟩ := hv.shape
  have V7 := Lib.hid (hv.isB rfl)
  have K7 := Lib.hid (K6.out.ab hb)
  have L7 := Lib.hid (L6.out.ab hb)
  have R7 := Lib.hid (R6.out.ab hb)
  have IR7 := Lib.hid (IR6.out.ab hb)
  have IS7 := Lib.hid (IS6.out.ab hb)
  have B7 := Lib.hid (below_tr B6.out hb B6.out.size)
  clear hv hb p0 p1 p2 K6 L6 R6 IR6 IS6 B6
  obtain ⟨p0, p1, p2⟩ := K7.out.cells
  obtain ⟨x0, x1, x2⟩ := R7.out.cells
  go_wp2_with fail
  refine (kept_any _ _ _ _ _ _ w7 L7.out IS7.out SN.out).mono ?_
  rintro e w8 ⟨rfl, hb⟩
  have V8 := Lib.hid (V7.out.ab hb)
  have R8 := Lib.hid (R7.out.ab hb)
  have IR8 := Lib.hid (IR7.out.ab hb)
  have IS8 := Lib.hid (IS7.out.ab hb)
  have B8 := Lib.hid (below_tr B7.out hb B7.out.size)
  clear hb p0 p1 p2 x0 x1 x2 K7 L7 R7 IR7 IS7 B7 V7
  obtain ⟨x0, x1, x2⟩ := R8.out.cells
  go_wp2_with fail
  refine (RU.out w8 IR8.out IS8.out).mono ?_
  rintro e w9 ⟨v, rfl, hv, hb⟩
  obtain ⟨A9, c9, rfl, -, -⟩ := hv.shape
  have hst1 := run_str (V8.out.ab hb) 22 5 9 Try.underlying22 Try.underlying5 Try.underlying9
  have hst2 := run_str (hv.isB rfl) 22 5 9 Try.underlying22 Try.underlying5 Try.underlying9
  have B9 := Lib.hid (below_tr B8.out hb B8.out.size)
  clear hv hb V8 R8 IR8 IS8 B8 x0 x1 x2
  go_wp2_with fail
  refine (known22_any _).mono ?_
  rintro e w10 ⟨rfl, b9⟩
  have B10 := Lib.hid (below_tr B9.out b9 B9.out.size)
  clear b9
  go_wp2_with fail
  go_ret
  exact ⟨rfl, B10.out⟩
set_option maxRecDepth 100000 in
set_option maxHeartbeats 8000000 in
theorem unwraps_bad1 (A sA : Option Addr) (n sn c sc ten gn cm : Nat) (root s : List Nat) (w : World) (ir : IsB w A n c root) (is : IsB w sA sn sc s) (ht : ten < 4294967296) (hg : gn < 65536) (hc : cm < 18446744073709551616) (hk : n ≤ 100000) (hs : sn ≤ 100000) (hne : n ≠ 32) :
    Calls Try.prog 18 #[.slice A n c, .int .u32 (ten : Int), .agg #[.int .u16 (gn : Int), .int .u64 (cm : Int), .slice sA sn sc]] w fun e w' => e = .returned (.bool true) ∧ Below w.heap.size w w' := by
  have IR : Hid (IsB (w.alloc (.cells #[.int .u16 (gn : Int), .int .u64 (cm : Int), .slice sA sn sc] 67)) A n c root) := Lib.hid (ir.alloc _)
  have IS : Hid (IsB (w.alloc (.cells #[.int .u16 (gn : Int), .int .u64 (cm : Int), .slice sA sn sc] 67)) sA sn sc s) := Lib.hid (is.alloc _)
  have R0 : Hid (HdB (w.alloc (.cells #[.int .u16 (gn : Int), .int .u64 (cm : Int), .slice sA sn sc] 67)) w.heap.size #[.int .u16 (gn : Int), .int .u64 (cm : Int), .slice sA sn sc]) := Lib.hid (boxH w _)
  have B0 : Hid (Below w.heap.size w (w.alloc (.cells #[.int .u16 (gn : Int), .int .u64 (cm : Int), .slice sA sn sc] 67))) := Lib.hid (boxB w _)
  have hun := fun g d W h1 h2 => unwrap_any A (some ⟨g, 0, none⟩) n c sn d ten gn cm root s W h1 h2 ht hg hc
  have h1 : decide ((100000 : Int) < (n : Int)) = false := by simp; omega
  have h2 : decide ((100000 : Int) < (sn : Int)) = false := by simp; omega
  have h3 : ((n : Int) != 32) = true := by simp; omega
  rw [if_neg (by omega)] at hun
  have hs' : sn ≤ 1000000 := by omega
  clear hk hs hne
  have UN := Lib.hid hun
  have SN : Hid (sn ≤ 1000000) := Lib.hid hs'
  clear ir is ht hg hc hun hs'
  obtain ⟨x0, x1, x2⟩ := R0.out.cells
  go_enter Try.func18, Try.ntmps18
  go_wp2_with fail
  obtain ⟨W0, hW0⟩ : ∃ W0, W0 = (w.alloc (.cells #[.int .u16 (gn : Int), .int .u64 (cm : Int), .slice sA sn sc] 67)) := ⟨_, rfl⟩
  change Code.wp _ _ _ _ (w.alloc (.cells #[.int .u16 (gn : Int), .int .u64 (cm : Int), .slice sA sn sc] 67))
  rw [← hW0] at IR IS R0 B0 ⊢
  clear hW0 x0 x1 x2
  refine wp_wide3 [⟨22, IsR (.pointer (some ⟨w.heap.size, 0, none⟩)), [], false⟩, ⟨23, IsR (.int .u16 (gn : Int)), [0], false⟩, ⟨24, IsR (.pointer (some ⟨w.heap.size, 1, none⟩)), [], false⟩, ⟨25, IsR (.int .u64 (cm : Int)), [2], false⟩, ⟨26, IsR (.pointer (some ⟨w.heap.size, 2, none⟩)), [], false⟩, ⟨27, IsR (.slice sA sn sc), [4], false⟩, ⟨28, LentR sn s, [5], false⟩, ⟨29, AggL gn cm sn s, [1, 3, 6], false⟩, ⟨7, NewH W0, [], false⟩] (by kernel_rfl) (by kernel_rfl) rfl rfl rfl ⟨?_, ?_, ?_, ?_, ?_, ?_, ?_, ?_, ?_, trivial⟩ ?_
  · refine ⟨rfl, IsR.mono _, fun a W hA hb hd => takes_plain rfl (yields_value _ ?_ rfl)⟩
    have h5 : a.tmps[5]?.getD undef = .pointer (some ⟨w.heap.size, 0, none⟩) := (eval_get a 5).trans ((hA.eval (by simp)).trans rfl)
    go_simp
  · refine ⟨rfl, IsR.mono _, fun a W hA hb hd => takes_plain rfl (yields_value _ ?_ rfl)⟩
    have h22 : a.tmps[22]?.getD undef = .pointer (some ⟨w.heap.size, 0, none⟩) := (eval_get a 22).trans (hd 0 (by simp) _ rfl)
    obtain ⟨x0, x1, x2⟩ := (R0.out.ab hb).cells
    go_simp
  · refine ⟨rfl, IsR.mono _, fun a W hA hb hd => takes_plain rfl (yields_value _ ?_ rfl)⟩
    have h5 : a.tmps[5]?.getD undef = .pointer (some ⟨w.heap.size, 0, none⟩) := (eval_get a 5).trans ((hA.eval (by simp)).trans rfl)
    go_simp
  · refine ⟨rfl, IsR.mono _, fun a W hA hb hd => takes_plain rfl (yields_value _ ?_ rfl)⟩
    have h24 : a.tmps[24]?.getD undef = .pointer (some ⟨w.heap.size, 1, none⟩) := (eval_get a 24).trans (hd 2 (by simp) _ rfl)
    obtain ⟨x0, x1, x2⟩ := (R0.out.ab hb).cells
    go_simp
  · refine ⟨rfl, IsR.mono _, fun a W hA hb hd => takes_plain rfl (yields_value _ ?_ rfl)⟩
    have h5 : a.tmps[5]?.getD undef = .pointer (some ⟨w.heap.size, 0, none⟩) := (eval_get a 5).trans ((hA.eval (by simp)).trans rfl)
    go_simp
  · refine ⟨rfl, IsR.mono _, fun a W hA hb hd => takes_plain rfl (yields_value _ ?_ rfl)⟩
    have h26 : a.tmps[26]?.getD undef = .pointer (some ⟨w.heap.size, 2, none⟩) := (eval_get a 26).trans (hd 4 (by simp) _ rfl)
    obtain ⟨x0, x1, x2⟩ := (R0.out.ab hb).cells
    go_simp
  · refine ⟨rfl, LentR.mono _ _, fun a W hA hb hd => takes_plain rfl ?_⟩
    have h27 : a.tmps[27]?.getD undef = .slice sA sn sc := (eval_get a 27).trans (hd 5 (by simp) _ rfl)
    refine yields_call 53 #[.slice sA sn sc] (by go_simp) ((lent_any sA sn sc s W (IS.out.ab hb) SN.out).mono ?_)
    rintro e W1 ⟨g1, d1, rfl, hl1, hb1⟩
    exact ⟨_, rfl, ⟨g1, d1, rfl, hl1⟩, hb1⟩
  · refine ⟨rfl, AggL.mono _ _ _ _, fun a W hA hb hd => takes_plain rfl ?_⟩
    obtain ⟨g1, d1, e1, hl1⟩ := hd 6 (by simp) _ rfl
    have h28 : a.tmps[28]?.getD undef = .slice (some ⟨g1, 0, none⟩) sn d1 := (eval_get a 28).trans e1
    have h23 : a.tmps[23]?.getD undef = .int .u16 (gn : Int) := (eval_get a 23).trans (hd 1 (by simp) _ rfl)
    have h25 : a.tmps[25]?.getD undef = .int .u64 (cm : Int) := (eval_get a 25).trans (hd 3 (by simp) _ rfl)
    refine yields_value (.agg #[.int .u16 (gn : Int), .int .u64 (cm : Int), .slice (some ⟨g1, 0, none⟩) sn d1]) ?_ ⟨g1, d1, rfl, hl1⟩
    go_simp
  · refine ⟨rfl, NewH.mono _, fun a W hA hb hd => takes_plain rfl ?_⟩
    refine yields_newH ?_ hb
    go_simp
  intro vs w9 hR hF hb
  obtain ⟨g, d, e29, hl⟩ : AggL gn cm sn s (vs 29) w9 := hR 7 _ rfl
  obtain ⟨g7, e7, k7, l7⟩ : NewH W0 (vs 7) w9 := hR 8 _ rfl
  simp only [List.map_cons, List.map_nil, List.foldl_cons, List.foldl_nil, List.length_cons, List.length_nil, List.drop_succ_cons, List.drop_zero, Act.put, List.setIfInBounds_toArray, List.set_cons_zero, List.set_cons_succ, e29, e7]
  generalize vs 22 = q22 at *
  generalize vs 23 = q23 at *
  generalize vs 24 = q24 at *
  generalize vs 25 = q25 at *
  generalize vs 26 = q26 at *
  generalize vs 27 = q27 at *
  generalize vs 28 = q28 at *
  have K7 := Lib.hid k7
  have HL := Lib.hid hl
  have NG : Hid (g ≠ g7) := Lib.hid (lent_ne hl k7)
  have B7 : Hid (∀ cs, Below W0.heap.size W0 (w9.setRow g7 cs)) := Lib.hid fun cs => Below.row hb l7 cs
  clear hR hF hb e29 e7 k7 l7 hl
  refine wpList_store3 rfl (.tmp 7) (.tmp 29) rfl g7 rfl #[.int .u16 (gn : Int), .int .u64 (cm : Int), .slice (some ⟨g, 0, none⟩) sn d] rfl rfl (by simp [Value.oneCell']) K7.out rfl ?_
  intro w6 hw6
  have hb6 : Below W0.heap.size W0 w6 := by rw [hw6]; exact B7.out _
  have K6 : Hid (HdB w6 g7 #[.int .u16 (gn : Int), .int .u64 (cm : Int), .slice (some ⟨g, 0, none⟩) sn d]) := Lib.hid (by rw [hw6]; exact K7.out.row _)
  have L6 : Hid (LentB w6 g sn d s) := Lib.hid (by rw [hw6]; exact HL.out.rowFar NG.out _)
  have R6 := Lib.hid (R0.out.ab hb6)
  have IR6 := Lib.hid (IR.out.ab hb6)
  have IS6 := Lib.hid (IS.out.ab hb6)
  have B6 := Lib.hid (below_tr B0.out hb6 B0.out.size)
  clear hw6 hb6 K7 HL NG B7 R0 IR IS B0
  obtain ⟨p0, p1, p2⟩ := K6.out.cells
  go_wp2_with fail
  refine (UN.out g d w6 IR6.out L6.out.isB).mono ?_
  rintro e w7 ⟨v, rfl, hv, hb⟩
  obtain ⟨A7, c7, rfl, -, -⟩ := hv.shape
  have V7 := Lib.hid (hv.isB rfl)
  have K7 := Lib.hid (K6.out.ab hb)
  have L7 := Lib.hid (L6.out.ab hb)
  have R7 := Lib.hid (R6.out.ab hb)
  have IR7 := Lib.hid (IR6.out.ab hb)
  have IS7 := Lib.hid (IS6.out.ab hb)
  have B7 := Lib.hid (below_tr B6.out hb B6.out.size)
  clear hv hb p0 p1 p2 K6 L6 R6 IR6 IS6 B6
  obtain ⟨p0, p1, p2⟩ := K7.out.cells
  obtain ⟨x0, x1, x2⟩ := R7.out.cells
  go_wp2_with fail
  refine (kept_any _ _ _ _ _ _ w7 L7.out IS7.out SN.out).mono ?_
  rintro e w8 ⟨rfl, hb⟩
  have V8 := Lib.hid (V7.out.ab hb)
  have R8 := Lib.hid (R7.out.ab hb)
  have IR8 := Lib.hid (IR7.out.ab hb)
  have IS8 := Lib.hid (IS7.out.ab hb)
  have B8 := Lib.hid (below_tr B7.out hb B7.out.size)
  clear hb p0 p1 p2 x0 x1 x2 K7 L7 R7 IR7 IS7 B7 V7
  obtain ⟨x0, x1, x2⟩ := R8.out.cells
  go_wp2_with fail
  refine (known22_any _).mono ?_
  rintro e w9 ⟨rfl, b9⟩
  have B9 := Lib.hid (below_tr B8.out b9 B8.out.size)
  clear b9
  go_wp2_with fail
  go_ret
  exact ⟨rfl, B9.out⟩
set_option maxRecDepth 100000 in
set_option maxHeartbeats 8000000 in
theorem unwraps_bad2 (A sA : Option Addr) (n sn c sc ten gn cm : Nat) (root s : List Nat) (w : World) (ir : IsB w A n c root) (is : IsB w sA sn sc s) (ht : ten < 4294967296) (hg : gn < 65536) (hc : cm < 18446744073709551616) (hk : n ≤ 100000) (hs : sn ≤ 100000) (hne : n = 32 ∧ sn ≠ 32) :
    Calls Try.prog 18 #[.slice A n c, .int .u32 (ten : Int), .agg #[.int .u16 (gn : Int), .int .u64 (cm : Int), .slice sA sn sc]] w fun e w' => e = .returned (.bool true) ∧ Below w.heap.size w w' := by
  have IR : Hid (IsB (w.alloc (.cells #[.int .u16 (gn : Int), .int .u64 (cm : Int), .slice sA sn sc] 67)) A n c root) := Lib.hid (ir.alloc _)
  have IS : Hid (IsB (w.alloc (.cells #[.int .u16 (gn : Int), .int .u64 (cm : Int), .slice sA sn sc] 67)) sA sn sc s) := Lib.hid (is.alloc _)
  have R0 : Hid (HdB (w.alloc (.cells #[.int .u16 (gn : Int), .int .u64 (cm : Int), .slice sA sn sc] 67)) w.heap.size #[.int .u16 (gn : Int), .int .u64 (cm : Int), .slice sA sn sc]) := Lib.hid (boxH w _)
  have B0 : Hid (Below w.heap.size w (w.alloc (.cells #[.int .u16 (gn : Int), .int .u64 (cm : Int), .slice sA sn sc] 67))) := Lib.hid (boxB w _)
  have hun := fun g d W h1 h2 => unwrap_any A (some ⟨g, 0, none⟩) n c sn d ten gn cm root s W h1 h2 ht hg hc
  have h1 : decide ((100000 : Int) < (n : Int)) = false := by simp; omega
  have h2 : decide ((100000 : Int) < (sn : Int)) = false := by simp; omega
  have h3 : ((n : Int) != 32) = false := by simp; omega
  have h4 : ((sn : Int) != 32) = true := by simp; omega
  rw [if_neg (by omega)] at hun
  have hs' : sn ≤ 1000000 := by omega
  clear hk hs hne
  have UN := Lib.hid hun
  have SN : Hid (sn ≤ 1000000) := Lib.hid hs'
  clear ir is ht hg hc hun hs'
  obtain ⟨x0, x1, x2⟩ := R0.out.cells
  go_enter Try.func18, Try.ntmps18
  go_wp2_with fail
  obtain ⟨W0, hW0⟩ : ∃ W0, W0 = (w.alloc (.cells #[.int .u16 (gn : Int), .int .u64 (cm : Int), .slice sA sn sc] 67)) := ⟨_, rfl⟩
  change Code.wp _ _ _ _ (w.alloc (.cells #[.int .u16 (gn : Int), .int .u64 (cm : Int), .slice sA sn sc] 67))
  rw [← hW0] at IR IS R0 B0 ⊢
  clear hW0 x0 x1 x2
  refine wp_wide3 [⟨22, IsR (.pointer (some ⟨w.heap.size, 0, none⟩)), [], false⟩, ⟨23, IsR (.int .u16 (gn : Int)), [0], false⟩, ⟨24, IsR (.pointer (some ⟨w.heap.size, 1, none⟩)), [], false⟩, ⟨25, IsR (.int .u64 (cm : Int)), [2], false⟩, ⟨26, IsR (.pointer (some ⟨w.heap.size, 2, none⟩)), [], false⟩, ⟨27, IsR (.slice sA sn sc), [4], false⟩, ⟨28, LentR sn s, [5], false⟩, ⟨29, AggL gn cm sn s, [1, 3, 6], false⟩, ⟨7, NewH W0, [], false⟩] (by kernel_rfl) (by kernel_rfl) rfl rfl rfl ⟨?_, ?_, ?_, ?_, ?_, ?_, ?_, ?_, ?_, trivial⟩ ?_
  · refine ⟨rfl, IsR.mono _, fun a W hA hb hd => takes_plain rfl (yields_value _ ?_ rfl)⟩
    have h5 : a.tmps[5]?.getD undef = .pointer (some ⟨w.heap.size, 0, none⟩) := (eval_get a 5).trans ((hA.eval (by simp)).trans rfl)
    go_simp
  · refine ⟨rfl, IsR.mono _, fun a W hA hb hd => takes_plain rfl (yields_value _ ?_ rfl)⟩
    have h22 : a.tmps[22]?.getD undef = .pointer (some ⟨w.heap.size, 0, none⟩) := (eval_get a 22).trans (hd 0 (by simp) _ rfl)
    obtain ⟨x0, x1, x2⟩ := (R0.out.ab hb).cells
    go_simp
  · refine ⟨rfl, IsR.mono _, fun a W hA hb hd => takes_plain rfl (yields_value _ ?_ rfl)⟩
    have h5 : a.tmps[5]?.getD undef = .pointer (some ⟨w.heap.size, 0, none⟩) := (eval_get a 5).trans ((hA.eval (by simp)).trans rfl)
    go_simp
  · refine ⟨rfl, IsR.mono _, fun a W hA hb hd => takes_plain rfl (yields_value _ ?_ rfl)⟩
    have h24 : a.tmps[24]?.getD undef = .pointer (some ⟨w.heap.size, 1, none⟩) := (eval_get a 24).trans (hd 2 (by simp) _ rfl)
    obtain ⟨x0, x1, x2⟩ := (R0.out.ab hb).cells
    go_simp
  · refine ⟨rfl, IsR.mono _, fun a W hA hb hd => takes_plain rfl (yields_value _ ?_ rfl)⟩
    have h5 : a.tmps[5]?.getD undef = .pointer (some ⟨w.heap.size, 0, none⟩) := (eval_get a 5).trans ((hA.eval (by simp)).trans rfl)
    go_simp
  · refine ⟨rfl, IsR.mono _, fun a W hA hb hd => takes_plain rfl (yields_value _ ?_ rfl)⟩
    have h26 : a.tmps[26]?.getD undef = .pointer (some ⟨w.heap.size, 2, none⟩) := (eval_get a 26).trans (hd 4 (by simp) _ rfl)
    obtain ⟨x0, x1, x2⟩ := (R0.out.ab hb).cells
    go_simp
  · refine ⟨rfl, LentR.mono _ _, fun a W hA hb hd => takes_plain rfl ?_⟩
    have h27 : a.tmps[27]?.getD undef = .slice sA sn sc := (eval_get a 27).trans (hd 5 (by simp) _ rfl)
    refine yields_call 53 #[.slice sA sn sc] (by go_simp) ((lent_any sA sn sc s W (IS.out.ab hb) SN.out).mono ?_)
    rintro e W1 ⟨g1, d1, rfl, hl1, hb1⟩
    exact ⟨_, rfl, ⟨g1, d1, rfl, hl1⟩, hb1⟩
  · refine ⟨rfl, AggL.mono _ _ _ _, fun a W hA hb hd => takes_plain rfl ?_⟩
    obtain ⟨g1, d1, e1, hl1⟩ := hd 6 (by simp) _ rfl
    have h28 : a.tmps[28]?.getD undef = .slice (some ⟨g1, 0, none⟩) sn d1 := (eval_get a 28).trans e1
    have h23 : a.tmps[23]?.getD undef = .int .u16 (gn : Int) := (eval_get a 23).trans (hd 1 (by simp) _ rfl)
    have h25 : a.tmps[25]?.getD undef = .int .u64 (cm : Int) := (eval_get a 25).trans (hd 3 (by simp) _ rfl)
    refine yields_value (.agg #[.int .u16 (gn : Int), .int .u64 (cm : Int), .slice (some ⟨g1, 0, none⟩) sn d1]) ?_ ⟨g1, d1, rfl, hl1⟩
    go_simp
  · refine ⟨rfl, NewH.mono _, fun a W hA hb hd => takes_plain rfl ?_⟩
    refine yields_newH ?_ hb
    go_simp
  intro vs w9 hR hF hb
  obtain ⟨g, d, e29, hl⟩ : AggL gn cm sn s (vs 29) w9 := hR 7 _ rfl
  obtain ⟨g7, e7, k7, l7⟩ : NewH W0 (vs 7) w9 := hR 8 _ rfl
  simp only [List.map_cons, List.map_nil, List.foldl_cons, List.foldl_nil, List.length_cons, List.length_nil, List.drop_succ_cons, List.drop_zero, Act.put, List.setIfInBounds_toArray, List.set_cons_zero, List.set_cons_succ, e29, e7]
  generalize vs 22 = q22 at *
  generalize vs 23 = q23 at *
  generalize vs 24 = q24 at *
  generalize vs 25 = q25 at *
  generalize vs 26 = q26 at *
  generalize vs 27 = q27 at *
  generalize vs 28 = q28 at *
  have K7 := Lib.hid k7
  have HL := Lib.hid hl
  have NG : Hid (g ≠ g7) := Lib.hid (lent_ne hl k7)
  have B7 : Hid (∀ cs, Below W0.heap.size W0 (w9.setRow g7 cs)) := Lib.hid fun cs => Below.row hb l7 cs
  clear hR hF hb e29 e7 k7 l7 hl
  refine wpList_store3 rfl (.tmp 7) (.tmp 29) rfl g7 rfl #[.int .u16 (gn : Int), .int .u64 (cm : Int), .slice (some ⟨g, 0, none⟩) sn d] rfl rfl (by simp [Value.oneCell']) K7.out rfl ?_
  intro w6 hw6
  have hb6 : Below W0.heap.size W0 w6 := by rw [hw6]; exact B7.out _
  have K6 : Hid (HdB w6 g7 #[.int .u16 (gn : Int), .int .u64 (cm : Int), .slice (some ⟨g, 0, none⟩) sn d]) := Lib.hid (by rw [hw6]; exact K7.out.row _)
  have L6 : Hid (LentB w6 g sn d s) := Lib.hid (by rw [hw6]; exact HL.out.rowFar NG.out _)
  have R6 := Lib.hid (R0.out.ab hb6)
  have IR6 := Lib.hid (IR.out.ab hb6)
  have IS6 := Lib.hid (IS.out.ab hb6)
  have B6 := Lib.hid (below_tr B0.out hb6 B0.out.size)
  clear hw6 hb6 K7 HL NG B7 R0 IR IS B0
  obtain ⟨p0, p1, p2⟩ := K6.out.cells
  go_wp2_with fail
  refine (UN.out g d w6 IR6.out L6.out.isB).mono ?_
  rintro e w7 ⟨v, rfl, hv, hb⟩
  obtain ⟨A7, c7, rfl, -, -⟩ := hv.shape
  have V7 := Lib.hid (hv.isB rfl)
  have K7 := Lib.hid (K6.out.ab hb)
  have L7 := Lib.hid (L6.out.ab hb)
  have R7 := Lib.hid (R6.out.ab hb)
  have IR7 := Lib.hid (IR6.out.ab hb)
  have IS7 := Lib.hid (IS6.out.ab hb)
  have B7 := Lib.hid (below_tr B6.out hb B6.out.size)
  clear hv hb p0 p1 p2 K6 L6 R6 IR6 IS6 B6
  obtain ⟨p0, p1, p2⟩ := K7.out.cells
  obtain ⟨x0, x1, x2⟩ := R7.out.cells
  go_wp2_with fail
  refine (kept_any _ _ _ _ _ _ w7 L7.out IS7.out SN.out).mono ?_
  rintro e w8 ⟨rfl, hb⟩
  have V8 := Lib.hid (V7.out.ab hb)
  have R8 := Lib.hid (R7.out.ab hb)
  have IR8 := Lib.hid (IR7.out.ab hb)
  have IS8 := Lib.hid (IS7.out.ab hb)
  have B8 := Lib.hid (below_tr B7.out hb B7.out.size)
  clear hb p0 p1 p2 x0 x1 x2 K7 L7 R7 IR7 IS7 B7 V7
  obtain ⟨x0, x1, x2⟩ := R8.out.cells
  go_wp2_with fail
  refine (known22_any _).mono ?_
  rintro e w9 ⟨rfl, b9⟩
  have B9 := Lib.hid (below_tr B8.out b9 B8.out.size)
  clear b9
  go_wp2_with fail
  go_ret
  exact ⟨rfl, B9.out⟩
set_option maxRecDepth 100000 in
set_option maxHeartbeats 8000000 in
theorem unwraps_any (A sA : Option Addr) (n sn c sc ten gn cm : Nat) (root s : List Nat) (w : World) (ir : IsB w A n c root) (is : IsB w sA sn sc s) (ht : ten < 4294967296) (hg : gn < 65536) (hc : cm < 18446744073709551616) :
    Calls Try.prog 18 #[.slice A n c, .int .u32 (ten : Int), .agg #[.int .u16 (gn : Int), .int .u64 (cm : Int), .slice sA sn sc]] w fun e w' => e = .returned (.bool true) ∧ Below w.heap.size w w' := by
  by_cases h : 100000 < n ∨ 100000 < sn
  · refine two_ways (decide ((100000 : Int) < (n : Int))) (decide ((100000 : Int) < (sn : Int))) _ (fun h1 => ?_) (fun h1 h2 => ?_) (by simp only [decide_eq_true_eq]; omega)
    all_goals
      have B0 : Hid (Below w.heap.size w (w.alloc (.cells #[.int .u16 (gn : Int), .int .u64 (cm : Int), .slice sA sn sc] 67))) := Lib.hid (boxB w _)
      obtain ⟨x0, x1, x2⟩ := HdB.cells (boxH w #[.int .u16 (gn : Int), .int .u64 (cm : Int), .slice sA sn sc])
      clear h ir is hg ht hc
      go_enter Try.func18, Try.ntmps18
      go_wp2_with fail
      refine (known22_any _).mono ?_
      rintro e w9 ⟨rfl, b9⟩
      have B9 := Lib.hid (below_tr B0.out b9 B0.out.size)
      clear b9
      go_wp2_with fail
      go_ret
      exact ⟨rfl, B9.out⟩
  · by_cases h1 : n = 32
    · by_cases h2 : sn = 32
      · subst h1 h2
        exact unwraps_ok A sA c sc ten gn cm root s w ir is ht hg hc
      · exact unwraps_bad2 A sA n sn c sc ten gn cm root s w ir is ht hg hc (by omega) (by omega) ⟨h1, h2⟩
    · exact unwraps_bad1 A sA n sn c sc ten gn cm root s w ir is ht hg hc (by omega) (by omega) h1
set_option maxRecDepth 100000 in
theorem unwraps_walk (A : Option Addr) (n c : Nat) (zr : List Int) (zt : Int) (v : Value) (w : World) (hr : IsRow .u8 w A n c zr) (sr : c * 1 ≤ 140737488351232) (hz : (Lit.int .u32 zt).wf = true) (hk : ∃ base, Value.okWide Try.prog w .any base 67 v) {H : Type} {enc : TypeId × Value → H} {d : DataW H} {p : List MemPlace} (h : DataW.Trod enc Try.prog w 0 (fun _ => true) true 67 v d p) (hl : ∀ x ∈ p, x.block < w.heap.size) :
    Calls Try.prog 18 #[.slice A n c, .int .u32 zt, v] w fun e w' => e = .returned (.bool true) ∧ Below w.heap.size w w' := by
  obtain ⟨base, hk⟩ := hk
  obtain ⟨gn, cm, sA, sn, sc, s, rfl, is, hg, hc⟩ := open_held hk h hl
  obtain ⟨root, rfl, br⟩ := byt_of_row hr
  obtain ⟨ten, rfl, ht⟩ := nat_wf32 hz
  exact unwraps_any A sA n sn c sc ten gn cm root s w ⟨hr, br⟩ is ht hg hc
end Go.Proofs.Ytpofndciepoooaa
