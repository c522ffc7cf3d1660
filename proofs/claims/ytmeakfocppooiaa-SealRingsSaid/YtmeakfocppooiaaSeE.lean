/-
  FOR THE LAWS of layer 10: there and back; what is known.
-/
import Derived.Test.YtmeakfocppooiaaSeB
namespace Go.Proofs.Ytmeakfocppooiaa
open Go.RowKit
set_option linter.unusedVariables false

theorem lsealA_len (key : List Nat) (l : Lb) {text : List Nat} (h : text.length = 224) : (headL l ++ sealA key (nonceL l) (aadL l) text).length = 256 := by rw [List.length_append, headL_len, sealA_len, h]
theorem lseal_take (l : Lb) (X : List Nat) : (headL l ++ X).take 16 = headL l := by
  have := headL_len l
  rw [List.take_append_of_le_length (by omega), List.take_of_length_le (by omega)]
theorem lseal_drop (l : Lb) (X : List Nat) : (headL l ++ X).drop 16 = X := by
  have := headL_len l
  rw [List.drop_append_of_le_length (by omega), List.drop_of_length_le (by omega), List.nil_append]
theorem openP_seal {key text : List Nat} {l : Lb} (h : SOk key l) (ht : text.length = 224) : openP key l (headL l ++ sealA key (nonceL l) (aadL l) text) = (text, 0) := by
  unfold openP
  rw [if_pos ⟨h, lsealA_len key l ht⟩, lseal_take, if_pos rfl, lseal_drop]
  exact open_seal ⟨h.1, nonceL_len l⟩ (by rw [aadL_len]; decide) (by omega)
theorem openP_other {key text : List Nat} {l m : Lb} (h : SOk key m) (ht : text.length = 224) (hne : headL l ≠ headL m) : openP key m (headL l ++ sealA key (nonceL l) (aadL l) text) = ([], 100) := by
  unfold openP
  rw [if_pos ⟨h, lsealA_len key l ht⟩, lseal_take, if_neg hne]
theorem sealP_ok {key text : List Nat} {l : Lb} (h : SOk key l) (ht : text.length = 224) : sealP key l text = (headL l ++ sealA key (nonceL l) (aadL l) text, 0) := by
  unfold sealP
  rw [if_pos ⟨h, ht⟩]
def kl0 : Lb := ⟨5, 1, 0, 7, 9, 2⟩
def kl1 : Lb := ⟨5, 1, 0, 7, 8, 2⟩
theorem kl0_ok : kl0.Ok := ⟨by decide, by decide, by decide, by decide, by decide, by decide⟩
theorem kl1_ok : kl1.Ok := ⟨by decide, by decide, by decide, by decide, by decide, by decide⟩
theorem kl0_s : SOk (zeros 16) kl0 := ⟨.inl rfl, by decide, by decide⟩
theorem kl1_s : SOk (zeros 16) kl1 := ⟨.inl rfl, by decide, by decide⟩
theorem kl_ne : headL kl0 ≠ headL kl1 := by decide
theorem kl_take (X : List Nat) : (headL kl0 ++ X).take 8 = [67, 72, 84, 49, 1, 0, 0, 2] := by
  rw [List.take_append_of_le_length (by rw [headL_len]; decide)]
  decide
theorem kl_str : ((strOf [67, 72, 84, 49, 1, 0, 0, 2]).toList == [67, 72, 84, 49, 1, 0, 0, 2]) = true := by decide +kernel
theorem kl_str2 : (strOf [67, 72, 84, 49, 1, 0, 0, 2]) = { data := #[67, 72, 84, 49, 1, 0, 0, 2] } := by decide +kernel
/-- a block of six cells -/
def LbR (w : World) (B : Nat) (cs : Array Value) : Prop := w.heap[B]? = some (.cells cs 35 (0, 0))
section
variable {w w' : World} {B : Nat} {cs : Array Value}
theorem LbR.lt (k : LbR w B cs) : B < w.heap.size := lt_of_block k
theorem LbR.ab (k : LbR w B cs) (hb : Below w.heap.size w w') : LbR w' B cs := (hb.block B k.lt).trans k
theorem LbR.far (k : LbR w B cs) {c j : Nat} (hne : B ≠ c) (u : Value) : LbR (w.setCell ⟨c, j, none⟩ u) B cs := (Below.heap_setCell w ⟨c, j, none⟩ u B hne).trans k
theorem LbR.cells {c0 c1 c2 c3 c4 c5 : Value} (k : LbR w B #[c0, c1, c2, c3, c4, c5]) : w.cell? ⟨B, 0, none⟩ = some c0 ∧ w.cell? ⟨B, 1, none⟩ = some c1 ∧ w.cell? ⟨B, 2, none⟩ = some c2 ∧ w.cell? ⟨B, 3, none⟩ = some c3 ∧ w.cell? ⟨B, 4, none⟩ = some c4 ∧ w.cell? ⟨B, 5, none⟩ = some c5 := by
  refine ⟨?_, ?_, ?_, ?_, ?_, ?_⟩ <;> (rw [cell_of_row w B _ _ _ (0, 0) k]; rfl)
end
theorem exec_move {P : Program} {r : Operand → Value} {o : Oper} (x : Operand) (h : o.op = .move x) (w : World) : (execOp r o).run P w = .ok (.value (r x)) w := by
  unfold execOp
  simp only [h, Sem.run_pure]
set_option maxRecDepth 100000 in
set_option maxHeartbeats 8000000 in
theorem known10_any (w : World) : Calls Try.prog 13 #[] w fun e w' => e = .returned (.bool true) ∧ Below w.heap.size w w' := by
  have hse : ∀ g0 g1 (dummy : Nat) W (h1 : IsB W (some ⟨g0, 0, none⟩) 16 16 (zeros 16)) (h2 : IsB W (some ⟨g1, 0, none⟩) 224 224 (zeros 224)), Calls Try.prog 58 #[.slice (some ⟨g0, 0, none⟩) 16 16, .agg (lab kl0), .slice (some ⟨g1, 0, none⟩) 224 224] W (OutB W (sealP (zeros 16) kl0 (zeros 224)).1 (sealP (zeros 16) kl0 (zeros 224)).2) :=
    fun g0 g1 _ W h1 h2 => lseal_any (some ⟨g0, 0, none⟩) (some ⟨g1, 0, none⟩) 16 16 224 224 kl0 (zeros 16) (zeros 224) W kl0_ok h1 h2
  rw [sealP_ok kl0_s (zeros_len 224)] at hse
  have hop0 := fun (g0 : Nat) A c W h1 h2 => lopen_any (some ⟨g0, 0, none⟩) A 16 16 256 c kl0 (zeros 16) (headL kl0 ++ sealA (zeros 16) (nonceL kl0) (aadL kl0) (zeros 224)) W kl0_ok h1 h2
  rw [openP_seal kl0_s (zeros_len 224)] at hop0
  have hop1 := fun (g0 : Nat) A c W h1 h2 => lopen_any (some ⟨g0, 0, none⟩) A 16 16 256 c kl1 (zeros 16) (headL kl0 ++ sealA (zeros 16) (nonceL kl0) (aadL kl0) (zeros 224)) W kl1_ok h1 h2
  rw [openP_other kl1_s (zeros_len 224) kl_ne] at hop1
  have hln := lsealA_len (zeros 16) kl0 (zeros_len 224)
  have htk := kl_take (sealA (zeros 16) (nonceL kl0) (aadL kl0) (zeros 224))
  generalize headL kl0 ++ sealA (zeros 16) (nonceL kl0) (aadL kl0) (zeros 224) = S at *
  have HSE := Lib.hid hse
  have HO0 := Lib.hid hop0
  have HO1 := Lib.hid hop1
  have HLN := Lib.hid hln
  have HTK := Lib.hid htk
  clear hse hop0 hop1 hln htk
  have XB : Hid (LbR (w.alloc (.cells #[.int .u32 5, .int .u8 1, .int .u8 0, .int .u32 7, .int .u64 9, .int .u16 2] 35)) w.heap.size #[.int .u32 5, .int .u8 1, .int .u8 0, .int .u32 7, .int .u64 9, .int .u16 2]) := Lib.hid (heap_alloc_new w _)
  have B0 : Hid (Below w.heap.size w (w.alloc (.cells #[.int .u32 5, .int .u8 1, .int .u8 0, .int .u32 7, .int .u64 9, .int .u16 2] 35))) := Lib.hid ((Below.refl _ _).alloc (Nat.le_refl _) _)
  go_enter Try.func13, Try.ntmps13
  go_wp2_with fail
  generalize w.alloc (.cells #[.int .u32 5, .int .u8 1, .int .u8 0, .int .u32 7, .int .u64 9, .int .u16 2] 35) = W0 at *
  refine wp_wide3 [⟨12, MadeR W0 16, [], false⟩, ⟨13, IsR (.agg #[.int .u32 5, .int .u8 1, .int .u8 0, .int .u32 7, .int .u64 9, .int .u16 2]), [], false⟩, ⟨14, MadeR W0 224, [], false⟩, ⟨15, TupB W0.heap.size 0 (S), [0, 1, 2], false⟩, ⟨11, TupB W0.heap.size 0 (S), [3], false⟩, ⟨16, OwR W0.heap.size (S), [4], false⟩, ⟨17, IsR (.int .i64 (0 : Int)), [4], false⟩, ⟨2, OwR W0.heap.size (S), [5], false⟩] (by kernel_rfl) (by kernel_rfl) rfl rfl rfl ⟨?_, ?_, ?_, ?_, ?_, ?_, ?_, ?_, trivial⟩ ?_
  · refine ⟨rfl, MadeR.mono _ _, fun a W hA hb hd => takes_plain rfl ?_⟩
    exact yields_make 16 (by decide) rfl hb
  · refine ⟨rfl, IsR.mono _, fun a W hA hb hd => takes_plain rfl (yields_value _ ?_ rfl)⟩
    have h1 : a.tmps[1]?.getD undef = .pointer (some ⟨w.heap.size, 0, none⟩) := (eval_get a 1).trans ((hA.eval (by simp)).trans rfl)
    obtain ⟨x0, x1, x2, x3, x4, x5⟩ := (XB.out.ab hb).cells
    go_simp
  · refine ⟨rfl, MadeR.mono _ _, fun a W hA hb hd => takes_plain rfl ?_⟩
    exact yields_make 224 (by decide) rfl hb
  · refine ⟨rfl, TupB.mono _ _ _, fun a W hA hb hd => ?_⟩
    obtain ⟨g0, e0, i0, _⟩ := hd 0 (by simp) _ rfl
    have h0 : a.tmps[12]?.getD undef = .slice (some ⟨g0, 0, none⟩) 16 16 := (eval_get a 12).trans e0
    have hl : a.tmps[13]?.getD undef = .agg #[.int .u32 5, .int .u8 1, .int .u8 0, .int .u32 7, .int .u64 9, .int .u16 2] := (eval_get a 13).trans (hd 1 (by simp) _ rfl)
    obtain ⟨g1, e1, i1, _⟩ := hd 2 (by simp) _ rfl
    have h1 : a.tmps[14]?.getD undef = .slice (some ⟨g1, 0, none⟩) 224 224 := (eval_get a 14).trans e1
    refine takes_plain rfl (yields_call 58 #[.slice (some ⟨g0, 0, none⟩) 16 16, .agg #[.int .u32 5, .int .u8 1, .int .u8 0, .int .u32 7, .int .u64 9, .int .u16 2], .slice (some ⟨g1, 0, none⟩) 224 224] (by go_simp) ((HSE.out _ _ 0 W i0 i1).mono ?_))
    rintro e W' ⟨v, rfl, hv, hb'⟩
    exact ⟨_, rfl, ⟨v, rfl, hv.lower hb.size⟩, hb'⟩
  · refine ⟨rfl, TupB.mono _ _ _, fun a W hA hb hd => takes_plain rfl ?_⟩
    obtain ⟨v0, e0, ho⟩ := hd 3 (by simp) _ rfl
    have h0 : a.tmps[15]?.getD undef = .tuple #[v0, .int .i64 ((0 : Nat) : Int)] := (eval_get a 15).trans e0
    refine yields_value (.tuple #[v0, .int .i64 ((0 : Nat) : Int)]) ?_ ⟨v0, rfl, ho⟩
    go_simp
  · refine ⟨rfl, OwR.mono _ _, fun a W hA hb hd => takes_plain rfl ?_⟩
    obtain ⟨v0, e0, ho⟩ := hd 4 (by simp) _ rfl
    have h0 : a.tmps[11]?.getD undef = .tuple #[v0, .int .i64 ((0 : Nat) : Int)] := (eval_get a 11).trans e0
    refine yields_value v0 ?_ ho
    go_simp
  · refine ⟨rfl, IsR.mono _, fun a W hA hb hd => takes_plain rfl ?_⟩
    obtain ⟨v0, e0, ho⟩ := hd 4 (by simp) _ rfl
    have h0 : a.tmps[11]?.getD undef = .tuple #[v0, .int .i64 ((0 : Nat) : Int)] := (eval_get a 11).trans e0
    refine yields_value (.int .i64 (0 : Int)) ?_ rfl
    go_simp
  · refine ⟨rfl, OwR.mono _ _, fun a W hA hb hd => takes_plain rfl ?_⟩
    have ho : OwB W W0.heap.size (a.eval (.tmp 16)) (S) := hd 5 (by simp) _ rfl
    exact yields_value (a.eval (.tmp 16)) (exec_assign (.tmp 16) rfl W) ho
  intro vs W1 hR hF hb
  have hV : OwB W1 W0.heap.size (vs 2) S := hR 7 _ rfl
  have e17 : vs 17 = .int .i64 (0 : Int) := hR 6 _ rfl
  simp only [List.map_cons, List.map_nil, List.foldl_cons, List.foldl_nil, List.length_cons, List.length_nil, List.drop_succ_cons, List.drop_zero, Act.put, List.setIfInBounds_toArray, List.set_cons_zero, List.set_cons_succ, e17]
  generalize vs 12 = q12 at *
  generalize vs 13 = q13 at *
  generalize vs 14 = q14 at *
  generalize vs 15 = q15 at *
  generalize vs 11 = q11 at *
  generalize vs 16 = q16 at *
  generalize vs 2 = q2 at *
  obtain ⟨A2, c2, rfl, -, -⟩ := hV.shape
  rw [HLN.out] at hV ⊢
  have I1 := Lib.hid (hV.isB HLN.out)
  have X1 := Lib.hid (XB.out.ab hb)
  have B1 := Lib.hid (below_tr B0.out hb B0.out.size)
  clear hV hR hF hb e17 HSE XB B0
  go_wp2_with fail
  refine wp_wide3 [⟨19, MadeR W1 16, [], false⟩, ⟨20, IsR (.agg #[.int .u32 5, .int .u8 1, .int .u8 0, .int .u32 7, .int .u64 9, .int .u16 2]), [], false⟩, ⟨21, IsR (.slice A2 256 c2), [], false⟩, ⟨22, TupB W1.heap.size 0 ((zeros 224)), [0, 1, 2], false⟩, ⟨18, TupB W1.heap.size 0 ((zeros 224)), [3], false⟩, ⟨23, OwR W1.heap.size ((zeros 224)), [4], false⟩, ⟨24, IsR (.int .i64 (0 : Int)), [4], false⟩, ⟨4, OwR W1.heap.size ((zeros 224)), [5], false⟩] (by kernel_rfl) (by kernel_rfl) rfl rfl rfl ⟨?_, ?_, ?_, ?_, ?_, ?_, ?_, ?_, trivial⟩ ?_
  · refine ⟨rfl, MadeR.mono _ _, fun a W hA hb hd => takes_plain rfl ?_⟩
    exact yields_make 16 (by decide) rfl hb
  · refine ⟨rfl, IsR.mono _, fun a W hA hb hd => takes_plain rfl (yields_value _ ?_ rfl)⟩
    have h1 : a.tmps[1]?.getD undef = .pointer (some ⟨w.heap.size, 0, none⟩) := (eval_get a 1).trans ((hA.eval (by simp)).trans rfl)
    obtain ⟨x0, x1, x2, x3, x4, x5⟩ := (X1.out.ab hb).cells
    go_simp
  · refine ⟨rfl, IsR.mono _, fun a W hA hb hd => takes_plain rfl (yields_value _ ?_ rfl)⟩
    have h2 : a.tmps[2]?.getD undef = .slice A2 256 c2 := (eval_get a 2).trans ((hA.eval (by simp)).trans rfl)
    go_simp
  · refine ⟨rfl, TupB.mono _ _ _, fun a W hA hb hd => ?_⟩
    obtain ⟨g0, e0, i0, _⟩ := hd 0 (by simp) _ rfl
    have h0 : a.tmps[19]?.getD undef = .slice (some ⟨g0, 0, none⟩) 16 16 := (eval_get a 19).trans e0
    have hl : a.tmps[20]?.getD undef = .agg #[.int .u32 5, .int .u8 1, .int .u8 0, .int .u32 7, .int .u64 9, .int .u16 2] := (eval_get a 20).trans (hd 1 (by simp) _ rfl)
    have h1 : a.tmps[21]?.getD undef = .slice A2 256 c2 := (eval_get a 21).trans (hd 2 (by simp) _ rfl)
    refine takes_plain rfl (yields_call 59 #[.slice (some ⟨g0, 0, none⟩) 16 16, .agg #[.int .u32 5, .int .u8 1, .int .u8 0, .int .u32 7, .int .u64 9, .int .u16 2], .slice A2 256 c2] (by go_simp) ((HO0.out _ _ _ W i0 (I1.out.ab hb)).mono ?_))
    rintro e W' ⟨v, rfl, hv, hb'⟩
    exact ⟨_, rfl, ⟨v, rfl, hv.lower hb.size⟩, hb'⟩
  · refine ⟨rfl, TupB.mono _ _ _, fun a W hA hb hd => takes_plain rfl ?_⟩
    obtain ⟨v0, e0, ho⟩ := hd 3 (by simp) _ rfl
    have h0 : a.tmps[22]?.getD undef = .tuple #[v0, .int .i64 ((0 : Nat) : Int)] := (eval_get a 22).trans e0
    refine yields_value (.tuple #[v0, .int .i64 ((0 : Nat) : Int)]) ?_ ⟨v0, rfl, ho⟩
    go_simp
  · refine ⟨rfl, OwR.mono _ _, fun a W hA hb hd => takes_plain rfl ?_⟩
    obtain ⟨v0, e0, ho⟩ := hd 4 (by simp) _ rfl
    have h0 : a.tmps[18]?.getD undef = .tuple #[v0, .int .i64 ((0 : Nat) : Int)] := (eval_get a 18).trans e0
    refine yields_value v0 ?_ ho
    go_simp
  · refine ⟨rfl, IsR.mono _, fun a W hA hb hd => takes_plain rfl ?_⟩
    obtain ⟨v0, e0, ho⟩ := hd 4 (by simp) _ rfl
    have h0 : a.tmps[18]?.getD undef = .tuple #[v0, .int .i64 ((0 : Nat) : Int)] := (eval_get a 18).trans e0
    refine yields_value (.int .i64 (0 : Int)) ?_ rfl
    go_simp
  · refine ⟨rfl, OwR.mono _ _, fun a W hA hb hd => takes_plain rfl ?_⟩
    have ho : OwB W W1.heap.size (a.eval (.tmp 23)) ((zeros 224)) := hd 5 (by simp) _ rfl
    exact yields_value (a.eval (.tmp 23)) (exec_assign (.tmp 23) rfl W) ho
  intro vs W2 hR hF hb
  have hV : OwB W2 W1.heap.size (vs 4) (zeros 224) := hR 7 _ rfl
  have e24 : vs 24 = .int .i64 (0 : Int) := hR 6 _ rfl
  have e21 : vs 21 = .slice A2 256 c2 := hR 2 _ rfl
  simp only [List.map_cons, List.map_nil, List.foldl_cons, List.foldl_nil, List.length_cons, List.length_nil, List.drop_succ_cons, List.drop_zero, Act.put, List.setIfInBounds_toArray, List.set_cons_zero, List.set_cons_succ, e24, e21]
  generalize vs 19 = q19 at *
  generalize vs 20 = q20 at *
  generalize vs 22 = q22 at *
  generalize vs 18 = q18 at *
  generalize vs 23 = q23 at *
  generalize vs 4 = q4 at *
  obtain ⟨A4, c4, rfl, -, -⟩ := hV.shape
  rw [zeros_len] at hV ⊢
  have J2 := Lib.hid (hV.isB (zeros_len 224))
  have I2 := Lib.hid (I1.out.ab hb)
  have X2 := Lib.hid (X1.out.ab hb)
  have B2 := Lib.hid (below_tr B1.out hb B1.out.size)
  clear hV hR hF hb e24 e21 HO0 X1 B1 I1
  obtain ⟨x0, x1, x2, x3, x4, x5⟩ := X2.out.cells
  have X3 : Hid (LbR (W2.alloc (.cells #[.int .u32 5, .int .u8 1, .int .u8 0, .int .u32 7, .int .u64 8, .int .u16 2] 35)) W2.heap.size #[.int .u32 5, .int .u8 1, .int .u8 0, .int .u32 7, .int .u64 8, .int .u16 2]) := Lib.hid (heap_alloc_new W2 _)
  have I3 : Hid (IsB (W2.alloc (.cells #[.int .u32 5, .int .u8 1, .int .u8 0, .int .u32 7, .int .u64 8, .int .u16 2] 35)) A2 256 c2 S) := Lib.hid (I2.out.alloc _)
  have J3 : Hid (IsB (W2.alloc (.cells #[.int .u32 5, .int .u8 1, .int .u8 0, .int .u32 7, .int .u64 8, .int .u16 2] 35)) A4 224 c4 (zeros 224)) := Lib.hid (J2.out.alloc _)
  have B3 : Hid (Below w.heap.size w (W2.alloc (.cells #[.int .u32 5, .int .u8 1, .int .u8 0, .int .u32 7, .int .u64 8, .int .u16 2] 35))) := Lib.hid (B2.out.alloc B2.out.size _)
  clear I2 J2 B2
  go_wp2_with fail
  generalize W2.alloc (.cells #[.int .u32 5, .int .u8 1, .int .u8 0, .int .u32 7, .int .u64 8, .int .u16 2] 35) = W3 at *
  generalize W2.heap.size = B6 at *
  clear x0 x1 x2 x3 x4 x5 X2
  refine wp_wide3 [⟨29, MadeR W3 16, [], false⟩, ⟨30, IsR (.agg #[.int .u32 5, .int .u8 1, .int .u8 0, .int .u32 7, .int .u64 8, .int .u16 2]), [], false⟩, ⟨31, IsR (.slice A2 256 c2), [], false⟩, ⟨32, TupB W3.heap.size 100 ([]), [0, 1, 2], false⟩, ⟨28, TupB W3.heap.size 100 ([]), [3], false⟩, ⟨33, OwR W3.heap.size ([]), [4], false⟩, ⟨34, IsR (.int .i64 (100 : Int)), [4], false⟩, ⟨7, OwR W3.heap.size ([]), [5], false⟩] (by kernel_rfl) (by kernel_rfl) rfl rfl rfl ⟨?_, ?_, ?_, ?_, ?_, ?_, ?_, ?_, trivial⟩ ?_
  · refine ⟨rfl, MadeR.mono _ _, fun a W hA hb hd => takes_plain rfl ?_⟩
    exact yields_make 16 (by decide) rfl hb
  · refine ⟨rfl, IsR.mono _, fun a W hA hb hd => takes_plain rfl (yields_value _ ?_ rfl)⟩
    have h6 : a.tmps[6]?.getD undef = .pointer (some ⟨B6, 0, none⟩) := (eval_get a 6).trans ((hA.eval (by simp)).trans rfl)
    obtain ⟨x0, x1, x2, x3, x4, x5⟩ := (X3.out.ab hb).cells
    go_simp
  · refine ⟨rfl, IsR.mono _, fun a W hA hb hd => takes_plain rfl (yields_value _ ?_ rfl)⟩
    have h2 : a.tmps[2]?.getD undef = .slice A2 256 c2 := (eval_get a 2).trans ((hA.eval (by simp)).trans rfl)
    go_simp
  · refine ⟨rfl, TupB.mono _ _ _, fun a W hA hb hd => ?_⟩
    obtain ⟨g0, e0, i0, _⟩ := hd 0 (by simp) _ rfl
    have h0 : a.tmps[29]?.getD undef = .slice (some ⟨g0, 0, none⟩) 16 16 := (eval_get a 29).trans e0
    have hl : a.tmps[30]?.getD undef = .agg #[.int .u32 5, .int .u8 1, .int .u8 0, .int .u32 7, .int .u64 8, .int .u16 2] := (eval_get a 30).trans (hd 1 (by simp) _ rfl)
    have h1 : a.tmps[31]?.getD undef = .slice A2 256 c2 := (eval_get a 31).trans (hd 2 (by simp) _ rfl)
    refine takes_plain rfl (yields_call 59 #[.slice (some ⟨g0, 0, none⟩) 16 16, .agg #[.int .u32 5, .int .u8 1, .int .u8 0, .int .u32 7, .int .u64 8, .int .u16 2], .slice A2 256 c2] (by go_simp) ((HO1.out _ _ _ W i0 (I3.out.ab hb)).mono ?_))
    rintro e W' ⟨v, rfl, hv, hb'⟩
    exact ⟨_, rfl, ⟨v, rfl, hv.lower hb.size⟩, hb'⟩
  · refine ⟨rfl, TupB.mono _ _ _, fun a W hA hb hd => takes_plain rfl ?_⟩
    obtain ⟨v0, e0, ho⟩ := hd 3 (by simp) _ rfl
    have h0 : a.tmps[32]?.getD undef = .tuple #[v0, .int .i64 ((100 : Nat) : Int)] := (eval_get a 32).trans e0
    refine yields_value (.tuple #[v0, .int .i64 ((100 : Nat) : Int)]) ?_ ⟨v0, rfl, ho⟩
    go_simp
  · refine ⟨rfl, OwR.mono _ _, fun a W hA hb hd => takes_plain rfl ?_⟩
    obtain ⟨v0, e0, ho⟩ := hd 4 (by simp) _ rfl
    have h0 : a.tmps[28]?.getD undef = .tuple #[v0, .int .i64 ((100 : Nat) : Int)] := (eval_get a 28).trans e0
    refine yields_value v0 ?_ ho
    go_simp
  · refine ⟨rfl, IsR.mono _, fun a W hA hb hd => takes_plain rfl ?_⟩
    obtain ⟨v0, e0, ho⟩ := hd 4 (by simp) _ rfl
    have h0 : a.tmps[28]?.getD undef = .tuple #[v0, .int .i64 ((100 : Nat) : Int)] := (eval_get a 28).trans e0
    refine yields_value (.int .i64 (100 : Int)) ?_ rfl
    go_simp
  · refine ⟨rfl, OwR.mono _ _, fun a W hA hb hd => takes_plain rfl ?_⟩
    have ho : OwB W W3.heap.size (a.eval (.tmp 33)) ([]) := hd 5 (by simp) _ rfl
    exact yields_value (a.eval (.tmp 33)) (exec_assign (.tmp 33) rfl W) ho
  intro vs W4 hR hF hb
  have hV : OwB W4 W3.heap.size (vs 7) [] := hR 7 _ rfl
  have e34 : vs 34 = .int .i64 (100 : Int) := hR 6 _ rfl
  have e31 : vs 31 = .slice A2 256 c2 := hR 2 _ rfl
  simp only [List.map_cons, List.map_nil, List.foldl_cons, List.foldl_nil, List.length_cons, List.length_nil, List.drop_succ_cons, List.drop_zero, Act.put, List.setIfInBounds_toArray, List.set_cons_zero, List.set_cons_succ, e34, e31]
  generalize vs 29 = q29 at *
  generalize vs 30 = q30 at *
  generalize vs 32 = q32 at *
  generalize vs 28 = q28 at *
  generalize vs 33 = q33 at *
  generalize vs 7 = q7 at *
  generalize vs 7 = v7 at *
  have I4 := Lib.hid (I3.out.ab hb)
  have J4 := Lib.hid (J3.out.ab hb)
  have B4 := Lib.hid (below_tr B3.out hb B3.out.size)
  have HC2 := Lib.hid (I3.out.1.lenCap)
  clear hV hR hF hb e34 e31 HO1 X3 I3 J3 B3
  have K4 := Lib.hid (I4.out.take (m := 8) (by decide))
  rw [HTK.out] at K4
  have hs8 : ∀ W, (Instr.sliceAt 28 (.slice A2 256 c2) none (some (.int .i64 8)) none).run Try.prog W = .ok (.slice A2 8 c2) W := fun W => sl_upto W A2 256 c2 8 (by have := HC2.out; omega)
  have HS8 := Lib.hid hs8
  have kst := kl_str
  have KST := Lib.hid kst
  clear hs8 kst
  go_wp2_with fail
  refine wp_wide3 [⟨35, IsR (.int .i64 0), [], false⟩, ⟨36, IsR (.bool true), [0], false⟩, ⟨37, IsR (.bool true), [1], false⟩, ⟨38, IsR (.int .i64 0), [2], false⟩, ⟨39, IsR (.bool true), [2, 3], false⟩, ⟨40, IsR (.bool true), [2, 4], false⟩, ⟨41, IsR (.bool true), [5], false⟩, ⟨42, IsR (.int .i64 100), [6], false⟩, ⟨43, IsR (.bool true), [6, 7], false⟩, ⟨44, IsR (.bool true), [6, 8], false⟩, ⟨45, IsR (.bool true), [9], false⟩, ⟨46, IsR (.slice A2 256 c2), [10], false⟩, ⟨47, IsR (.int .i64 256), [10, 11], false⟩, ⟨48, IsR (.bool true), [10, 12], false⟩, ⟨49, IsR (.bool true), [10, 13], false⟩, ⟨50, IsR (.bool true), [14], false⟩, ⟨51, IsR (.slice A2 256 c2), [15], false⟩, ⟨52, IsR (.slice A2 8 c2), [15, 16], false⟩, ⟨53, IsR (.string (strOf [67, 72, 84, 49, 1, 0, 0, 2])), [15, 17], false⟩, ⟨54, IsR (.bool true), [15, 18], false⟩, ⟨55, IsR (.bool true), [15, 19], false⟩, ⟨56, IsR (.bool true), [20], false⟩, ⟨57, IsR (.slice A4 224 c4), [21], false⟩, ⟨58, IsR (.string (strOf (zeros 224))), [21, 22], false⟩, ⟨59, MadeR W4 224, [21], false⟩, ⟨60, IsR (.string (strOf (zeros 224))), [21, 24], false⟩, ⟨61, IsR (.bool true), [21, 23, 25], false⟩, ⟨62, IsR (.bool true), [21, 26], false⟩] (by kernel_rfl) (by kernel_rfl) rfl rfl rfl ⟨?_, ?_, ?_, ?_, ?_, ?_, ?_, ?_, ?_, ?_, ?_, ?_, ?_, ?_, ?_, ?_, ?_, ?_, ?_, ?_, ?_, ?_, ?_, ?_, ?_, ?_, ?_, ?_, trivial⟩ ?_
  · refine ⟨rfl, IsR.mono _, fun a W hA hb hd => takes_plain rfl (yields_value _ ?_ rfl)⟩
    have h3 : a.tmps[3]?.getD undef = .int .i64 0 := (eval_get a 3).trans ((hA.eval (by simp)).trans rfl)
    go_simp
  · refine ⟨rfl, IsR.mono _, fun a W hA hb hd => takes_plain rfl (yields_value _ ?_ rfl)⟩
    have h35 : a.tmps[35]?.getD undef = .int .i64 0 := (eval_get a 35).trans (hd 0 (by simp) _ rfl)
    go_simp
  · refine ⟨rfl, IsR.mono _, fun a W hA hb hd => takes_plain rfl (yields_value _ ?_ rfl)⟩
    have h36 : a.tmps[36]?.getD undef = .bool true := (eval_get a 36).trans (hd 1 (by simp) _ rfl)
    go_simp
  · refine ⟨rfl, IsR.mono _, fun a W hA hb hd => takes_on (i := 2) (d := 37) (b := true) rfl rfl rfl (hd 2 (by simp) _ rfl) (yields_value _ ?_ rfl)⟩
    have h5 : a.tmps[5]?.getD undef = .int .i64 0 := (eval_get a 5).trans ((hA.eval (by simp)).trans rfl)
    go_simp
  · refine ⟨rfl, IsR.mono _, fun a W hA hb hd => takes_on (i := 2) (d := 37) (b := true) rfl rfl rfl (hd 2 (by simp) _ rfl) (yields_value _ ?_ rfl)⟩
    have h38 : a.tmps[38]?.getD undef = .int .i64 0 := (eval_get a 38).trans (hd 3 (by simp) _ rfl)
    go_simp
  · refine ⟨rfl, IsR.mono _, fun a W hA hb hd => takes_plain rfl (yields_value _ ?_ rfl)⟩
    have h37 : a.tmps[37]?.getD undef = .bool true := (eval_get a 37).trans (hd 2 (by simp) _ rfl)
    have h39 : a.tmps[39]?.getD undef = .bool true := (eval_get a 39).trans (hd 4 (by simp) _ rfl)
    go_simp
  · refine ⟨rfl, IsR.mono _, fun a W hA hb hd => takes_plain rfl (yields_value _ ?_ rfl)⟩
    have h40 : a.tmps[40]?.getD undef = .bool true := (eval_get a 40).trans (hd 5 (by simp) _ rfl)
    go_simp
  · refine ⟨rfl, IsR.mono _, fun a W hA hb hd => takes_on (i := 6) (d := 41) (b := true) rfl rfl rfl (hd 6 (by simp) _ rfl) (yields_value _ ?_ rfl)⟩
    have h8 : a.tmps[8]?.getD undef = .int .i64 100 := (eval_get a 8).trans ((hA.eval (by simp)).trans rfl)
    go_simp
  · refine ⟨rfl, IsR.mono _, fun a W hA hb hd => takes_on (i := 6) (d := 41) (b := true) rfl rfl rfl (hd 6 (by simp) _ rfl) (yields_value _ ?_ rfl)⟩
    have h42 : a.tmps[42]?.getD undef = .int .i64 100 := (eval_get a 42).trans (hd 7 (by simp) _ rfl)
    go_simp
  · refine ⟨rfl, IsR.mono _, fun a W hA hb hd => takes_plain rfl (yields_value _ ?_ rfl)⟩
    have h41 : a.tmps[41]?.getD undef = .bool true := (eval_get a 41).trans (hd 6 (by simp) _ rfl)
    have h43 : a.tmps[43]?.getD undef = .bool true := (eval_get a 43).trans (hd 8 (by simp) _ rfl)
    go_simp
  · refine ⟨rfl, IsR.mono _, fun a W hA hb hd => takes_plain rfl (yields_value _ ?_ rfl)⟩
    have h44 : a.tmps[44]?.getD undef = .bool true := (eval_get a 44).trans (hd 9 (by simp) _ rfl)
    go_simp
  · refine ⟨rfl, IsR.mono _, fun a W hA hb hd => takes_on (i := 10) (d := 45) (b := true) rfl rfl rfl (hd 10 (by simp) _ rfl) (yields_value _ ?_ rfl)⟩
    have h2 : a.tmps[2]?.getD undef = .slice A2 256 c2 := (eval_get a 2).trans ((hA.eval (by simp)).trans rfl)
    go_simp
  · refine ⟨rfl, IsR.mono _, fun a W hA hb hd => takes_on (i := 10) (d := 45) (b := true) rfl rfl rfl (hd 10 (by simp) _ rfl) (yields_value _ ?_ rfl)⟩
    have h46 : a.tmps[46]?.getD undef = .slice A2 256 c2 := (eval_get a 46).trans (hd 11 (by simp) _ rfl)
    go_simp
  · refine ⟨rfl, IsR.mono _, fun a W hA hb hd => takes_on (i := 10) (d := 45) (b := true) rfl rfl rfl (hd 10 (by simp) _ rfl) (yields_value _ ?_ rfl)⟩
    have h47 : a.tmps[47]?.getD undef = .int .i64 256 := (eval_get a 47).trans (hd 12 (by simp) _ rfl)
    go_simp
  · refine ⟨rfl, IsR.mono _, fun a W hA hb hd => takes_plain rfl (yields_value _ ?_ rfl)⟩
    have h45 : a.tmps[45]?.getD undef = .bool true := (eval_get a 45).trans (hd 10 (by simp) _ rfl)
    have h48 : a.tmps[48]?.getD undef = .bool true := (eval_get a 48).trans (hd 13 (by simp) _ rfl)
    go_simp
  · refine ⟨rfl, IsR.mono _, fun a W hA hb hd => takes_plain rfl (yields_value _ ?_ rfl)⟩
    have h49 : a.tmps[49]?.getD undef = .bool true := (eval_get a 49).trans (hd 14 (by simp) _ rfl)
    go_simp
  · refine ⟨rfl, IsR.mono _, fun a W hA hb hd => takes_on (i := 15) (d := 50) (b := true) rfl rfl rfl (hd 15 (by simp) _ rfl) (yields_value _ ?_ rfl)⟩
    have h2 : a.tmps[2]?.getD undef = .slice A2 256 c2 := (eval_get a 2).trans ((hA.eval (by simp)).trans rfl)
    go_simp
  · refine ⟨rfl, IsR.mono _, fun a W hA hb hd => takes_on (i := 15) (d := 50) (b := true) rfl rfl rfl (hd 15 (by simp) _ rfl) (yields_value _ ?_ rfl)⟩
    have h51 : a.tmps[51]?.getD undef = .slice A2 256 c2 := (eval_get a 51).trans (hd 16 (by simp) _ rfl)
    have hs := HS8.out W
    go_simp
  · refine ⟨rfl, IsR.mono _, fun a W hA hb hd => takes_on (i := 15) (d := 50) (b := true) rfl rfl rfl (hd 15 (by simp) _ rfl) (yields_value _ ?_ rfl)⟩
    have h52 : a.tmps[52]?.getD undef = .slice A2 8 c2 := (eval_get a 52).trans (hd 17 (by simp) _ rfl)
    have hst : (convert 28 9 (.slice A2 8 c2)).run Try.prog W = .ok (.string (strOf [67, 72, 84, 49, 1, 0, 0, 2])) W := run_str (K4.out.ab hb) _ _ _ Try.underlying28 Try.underlying5 Try.underlying9
    go_simp
  · refine ⟨rfl, IsR.mono _, fun a W hA hb hd => takes_on (i := 15) (d := 50) (b := true) rfl rfl rfl (hd 15 (by simp) _ rfl) (yields_value _ ?_ rfl)⟩
    have h53 : a.tmps[53]?.getD undef = .string (strOf [67, 72, 84, 49, 1, 0, 0, 2]) := (eval_get a 53).trans (hd 18 (by simp) _ rfl)
    have hk := KST.out
    go_simp
  · refine ⟨rfl, IsR.mono _, fun a W hA hb hd => takes_plain rfl (yields_value _ ?_ rfl)⟩
    have h50 : a.tmps[50]?.getD undef = .bool true := (eval_get a 50).trans (hd 15 (by simp) _ rfl)
    have h54 : a.tmps[54]?.getD undef = .bool true := (eval_get a 54).trans (hd 19 (by simp) _ rfl)
    go_simp
  · refine ⟨rfl, IsR.mono _, fun a W hA hb hd => takes_plain rfl (yields_value _ ?_ rfl)⟩
    have h55 : a.tmps[55]?.getD undef = .bool true := (eval_get a 55).trans (hd 20 (by simp) _ rfl)
    go_simp
  · refine ⟨rfl, IsR.mono _, fun a W hA hb hd => takes_on (i := 21) (d := 56) (b := true) rfl rfl rfl (hd 21 (by simp) _ rfl) (yields_value _ ?_ rfl)⟩
    have h4 : a.tmps[4]?.getD undef = .slice A4 224 c4 := (eval_get a 4).trans ((hA.eval (by simp)).trans rfl)
    go_simp
  · refine ⟨rfl, IsR.mono _, fun a W hA hb hd => takes_on (i := 21) (d := 56) (b := true) rfl rfl rfl (hd 21 (by simp) _ rfl) (yields_value _ ?_ rfl)⟩
    have h57 : a.tmps[57]?.getD undef = .slice A4 224 c4 := (eval_get a 57).trans (hd 22 (by simp) _ rfl)
    have hst : (convert 28 9 (.slice A4 224 c4)).run Try.prog W = .ok (.string (strOf (zeros 224))) W := run_str (J4.out.ab hb) _ _ _ Try.underlying28 Try.underlying5 Try.underlying9
    go_simp
  · refine ⟨rfl, MadeR.mono _ _, fun a W hA hb hd => takes_on (i := 21) (d := 56) (b := true) rfl rfl rfl (hd 21 (by simp) _ rfl) ?_⟩
    exact yields_make 224 (by decide) rfl hb
  · refine ⟨rfl, IsR.mono _, fun a W hA hb hd => takes_on (i := 21) (d := 56) (b := true) rfl rfl rfl (hd 21 (by simp) _ rfl) ?_⟩
    obtain ⟨g1, e1, i1, _⟩ := hd 24 (by simp) _ rfl
    have h1 : a.tmps[59]?.getD undef = .slice (some ⟨g1, 0, none⟩) 224 224 := (eval_get a 59).trans e1
    have hst : (convert 28 9 (.slice (some ⟨g1, 0, none⟩) 224 224)).run Try.prog W = .ok (.string (strOf (zeros 224))) W := run_str (i1) _ _ _ Try.underlying28 Try.underlying5 Try.underlying9
    refine yields_value (.string (strOf (zeros 224))) ?_ rfl
    go_simp
  · refine ⟨rfl, IsR.mono _, fun a W hA hb hd => takes_on (i := 21) (d := 56) (b := true) rfl rfl rfl (hd 21 (by simp) _ rfl) (yields_value _ ?_ rfl)⟩
    have h58 : a.tmps[58]?.getD undef = .string (strOf (zeros 224)) := (eval_get a 58).trans (hd 23 (by simp) _ rfl)
    have h60 : a.tmps[60]?.getD undef = .string (strOf (zeros 224)) := (eval_get a 60).trans (hd 25 (by simp) _ rfl)
    go_simp
  · refine ⟨rfl, IsR.mono _, fun a W hA hb hd => takes_plain rfl (yields_value _ ?_ rfl)⟩
    have h56 : a.tmps[56]?.getD undef = .bool true := (eval_get a 56).trans (hd 21 (by simp) _ rfl)
    have h61 : a.tmps[61]?.getD undef = .bool true := (eval_get a 61).trans (hd 26 (by simp) _ rfl)
    go_simp
  intro vs W5 hR hF hb
  have e62 : vs 62 = .bool true := hR 27 _ rfl
  simp only [List.map_cons, List.map_nil, List.foldl_cons, List.foldl_nil, List.length_cons, List.length_nil, List.drop_succ_cons, List.drop_zero, Act.put, List.setIfInBounds_toArray, List.set_cons_zero, List.set_cons_succ, e62]
  generalize vs 35 = q35 at *
  generalize vs 36 = q36 at *
  generalize vs 37 = q37 at *
  generalize vs 38 = q38 at *
  generalize vs 39 = q39 at *
  generalize vs 40 = q40 at *
  generalize vs 41 = q41 at *
  generalize vs 42 = q42 at *
  generalize vs 43 = q43 at *
  generalize vs 44 = q44 at *
  generalize vs 45 = q45 at *
  generalize vs 46 = q46 at *
  generalize vs 47 = q47 at *
  generalize vs 48 = q48 at *
  generalize vs 49 = q49 at *
  generalize vs 50 = q50 at *
  generalize vs 51 = q51 at *
  generalize vs 52 = q52 at *
  generalize vs 53 = q53 at *
  generalize vs 54 = q54 at *
  generalize vs 55 = q55 at *
  generalize vs 56 = q56 at *
  generalize vs 57 = q57 at *
  generalize vs 58 = q58 at *
  generalize vs 59 = q59 at *
  generalize vs 60 = q60 at *
  generalize vs 61 = q61 at *
  have B5 := Lib.hid (below_tr B4.out hb B4.out.size)
  clear hR hF hb e62
  go_wp2_with fail
  go_ret
  exact ⟨rfl, B5.out⟩
end Go.Proofs.Ytmeakfocppooiaa
