/-
  FOR THE LAWS of layer 6: what is known; few; GcmSeals, GcmOpens: the walks.
-/
import Derived.Test.YtpofndciepoooaaGcR
namespace Go.Proofs.Ytpofndciepoooaa
open Go.RowKit
set_option linter.unusedVariables false

def gm16 : List Nat := [0x58, 0xe2, 0xfc, 0xce, 0xfa, 0x7e, 0x30, 0x61, 0x36, 0x7f, 0x1d, 0x57, 0xa4, 0xe7, 0x45, 0x5a]
theorem sumB_nil (h : List Nat) : sumB h [] [] = digB (hmul 0 (numB h)) 16 := by
  rw [sumB, hsum, absorb_nil, absorb_nil]
  rfl
theorem gm_known : sealA (zeros 16) (zeros 12) [] [] = gm16 := by
  have hc : cryptA (zeros 16) (zeros 12) [] = [] := rfl
  rw [sealA, hc, tagA, sumB_nil]
  decide +kernel
theorem gm_gok : GOk (zeros 16) (zeros 12) := ⟨.inl rfl, rfl⟩
theorem gm_seal : sealS (zeros 16) (zeros 12) [] [] = (gm16, 0) := by
  unfold sealS
  rw [if_pos gm_gok, if_neg (by decide), gm_known]
theorem gm_open : openS (zeros 16) (zeros 12) [] gm16 = ([], 0) := by
  rw [← gm_known]
  exact open_seal gm_gok (by decide) (by decide)
theorem gm_str : ((strOf gm16).toList == [88, 226, 252, 206, 250, 126, 48, 97, 54, 127, 29, 87, 164, 231, 69, 90]) = true := by decide +kernel
theorem isB_nil (w : World) : IsB w none 0 0 [] := ⟨⟨rfl, Nat.le_refl _, Nat.zero_le _, fun z hz => by simp at hz, .inl ⟨rfl, rfl⟩⟩, fun x hx => by cases hx⟩
theorem yields_make {o : Oper} {a : Act} {W w0 : World} (n : Nat) (hn : n ≤ 281474976710656) (ho : o.op = .makeSlice 22 (.const (.int .i64 (n : Int))) (.const (.int .i64 (n : Int)))) (hb : Below w0.heap.size w0 W) : Yields Try.prog o a W false (MadeR w0 n) := by
  refine .inl ⟨.slice (some ⟨W.heap.size, 0, none⟩) n n, W.alloc (.cells (bts (zeros n)) 5), ?_, ⟨W.heap.size, rfl, isB_whole (Bk.newAt _ (zeros n) rfl) (byt_zeros n) (zeros_len n) (by omega), hb.size⟩, (Below.refl _ _).alloc (Nat.le_refl _) _, fresh_no _ _ _⟩
  have := make_u8 n n (Nat.le_refl _) hn W
  unfold execOp
  simp only [ho, Act.eval, this, Sem.run_bind, Result.andThen_ok, Sem.run_pure]
theorem exec_assign {P : Program} {r : Operand → Value} {o : Oper} (x : Operand) (h : o.op = .assign x) (w : World) : (execOp r o).run P w = .ok (.value (r x)) w := by
  unfold execOp
  simp only [h, Sem.run_pure]
set_option maxRecDepth 100000 in
set_option maxHeartbeats 4000000 in
theorem known6_any (w : World) : Calls Try.prog 32 #[] w fun e w' => e = .returned (.bool true) ∧ Below w.heap.size w w' := by
  have hse := fun kA nA W h1 h2 => gseal_any kA nA none none 16 16 12 12 0 0 0 0 (zeros 16) (zeros 12) [] [] W h1 h2 (isB_nil W) (isB_nil W)
  rw [gm_seal] at hse
  have hop := fun kA nA A c W h1 h2 h3 => gopen_any kA nA none A 16 16 12 12 0 0 16 c (zeros 16) (zeros 12) [] gm16 W h1 h2 (isB_nil W) h3
  rw [gm_open] at hop
  have HSE := Lib.hid hse
  have HOP := Lib.hid hop
  clear hse hop
  go_enter Try.func32, Try.ntmps32
  go_wp2_with fail
  refine wp_wide2 [⟨6, MadeR w 16, [], false⟩, ⟨7, MadeR w 12, [], false⟩, ⟨8, TupB w.heap.size 0 gm16, [0, 1], false⟩, ⟨5, TupB w.heap.size 0 gm16, [2], false⟩, ⟨9, OwR w.heap.size gm16, [3], false⟩, ⟨10, IsR (.int .i64 0), [3], false⟩, ⟨1, OwR w.heap.size gm16, [4], false⟩] (by kernel_rfl) (by kernel_rfl) rfl rfl rfl ⟨?_, ?_, ?_, ?_, ?_, ?_, ?_, trivial⟩ ?_
  · exact ⟨rfl, rfl, MadeR.mono _ _, fun a W hA hb hd => yields_make 16 (by decide) rfl hb⟩
  · exact ⟨rfl, rfl, MadeR.mono _ _, fun a W hA hb hd => yields_make 12 (by decide) rfl hb⟩
  · refine ⟨rfl, rfl, TupB.mono _ _ _, fun a W hA hb hd => ?_⟩
    obtain ⟨g0, e0, i0, _⟩ := hd 0 (by simp) _ rfl
    obtain ⟨g1, e1, i1, _⟩ := hd 1 (by simp) _ rfl
    have h0 : a.tmps[6]?.getD undef = .slice (some ⟨g0, 0, none⟩) 16 16 := (eval_get a 6).trans e0
    have h1 : a.tmps[7]?.getD undef = .slice (some ⟨g1, 0, none⟩) 12 12 := (eval_get a 7).trans e1
    refine yields_call 33 #[.slice (some ⟨g0, 0, none⟩) 16 16, .slice (some ⟨g1, 0, none⟩) 12 12, .slice none 0 0, .slice none 0 0] (by go_simp) ((HSE.out _ _ W i0 i1).mono ?_)
    rintro e W' ⟨v, rfl, hv, hb'⟩
    exact ⟨_, rfl, ⟨v, rfl, hv.lower hb.size⟩, hb'⟩
  · refine ⟨rfl, rfl, TupB.mono _ _ _, fun a W hA hb hd => ?_⟩
    obtain ⟨v0, e0, ho⟩ := hd 2 (by simp) _ rfl
    have h0 : a.tmps[8]?.getD undef = .tuple #[v0, .int .i64 ((0 : Nat) : Int)] := (eval_get a 8).trans e0
    refine yields_value (.tuple #[v0, .int .i64 ((0 : Nat) : Int)]) ?_ ⟨v0, rfl, ho⟩
    go_simp
  · refine ⟨rfl, rfl, OwR.mono _ _, fun a W hA hb hd => ?_⟩
    obtain ⟨v0, e0, ho⟩ := hd 3 (by simp) _ rfl
    have h0 : a.tmps[5]?.getD undef = .tuple #[v0, .int .i64 ((0 : Nat) : Int)] := (eval_get a 5).trans e0
    refine yields_value v0 ?_ ho
    go_simp
  · refine ⟨rfl, rfl, IsR.mono _, fun a W hA hb hd => ?_⟩
    obtain ⟨v0, e0, ho⟩ := hd 3 (by simp) _ rfl
    have h0 : a.tmps[5]?.getD undef = .tuple #[v0, .int .i64 ((0 : Nat) : Int)] := (eval_get a 5).trans e0
    refine yields_value _ ?_ rfl
    go_simp
  · refine ⟨rfl, rfl, OwR.mono _ _, fun a W hA hb hd => ?_⟩
    have ho : OwB W w.heap.size (a.eval (.tmp 9)) gm16 := hd 4 (by simp) _ rfl
    exact yields_value (a.eval (.tmp 9)) (exec_assign (.tmp 9) rfl W) ho
  intro vs W hR hF hb
  have e10 : vs 10 = .int .i64 0 := hR 5 _ rfl
  have h9 : OwB W w.heap.size (vs 1) gm16 := hR 6 _ rfl
  simp only [List.map_cons, List.map_nil, List.foldl_cons, List.foldl_nil, List.length_cons, List.length_nil, List.drop_succ_cons, List.drop_zero, Act.put, List.setIfInBounds_toArray, List.set_cons_zero, List.set_cons_succ, e10]
  generalize vs 9 = v9 at *
  generalize vs 1 = v1 at *
  generalize vs 8 = v8 at *
  generalize vs 7 = v7 at *
  generalize vs 6 = v6 at *
  generalize vs 5 = v5 at *
  obtain ⟨A9, c9, rfl, -, -⟩ := h9.shape
  have O9 := Lib.hid h9
  have I9 := Lib.hid (h9.isB rfl)
  have B9 := Lib.hid hb
  clear hR hF hb e10 h9 HSE
  go_wp2_with fail
  refine wp_wide2 [⟨12, MadeR W 16, [], false⟩, ⟨13, MadeR W 12, [], false⟩, ⟨14, IsR (.slice A9 16 c9), [], false⟩, ⟨15, TupB W.heap.size 0 [], [0, 1, 2], false⟩, ⟨11, TupB W.heap.size 0 [], [3], false⟩, ⟨16, OwR W.heap.size [], [4], false⟩, ⟨17, IsR (.int .i64 0), [4], false⟩, ⟨3, OwR W.heap.size [], [5], false⟩] (by kernel_rfl) (by kernel_rfl) rfl rfl rfl ⟨?_, ?_, ?_, ?_, ?_, ?_, ?_, ?_, trivial⟩ ?_
  · exact ⟨rfl, rfl, MadeR.mono _ _, fun a W2 hA hb hd => yields_make 16 (by decide) rfl hb⟩
  · exact ⟨rfl, rfl, MadeR.mono _ _, fun a W2 hA hb hd => yields_make 12 (by decide) rfl hb⟩
  · refine ⟨rfl, rfl, IsR.mono _, fun a W2 hA hb hd => yields_value _ ?_ rfl⟩
    have h0 : a.tmps[1]?.getD undef = .slice A9 16 c9 := (eval_get a 1).trans ((hA.eval (by simp)).trans rfl)
    go_simp
  · refine ⟨rfl, rfl, TupB.mono _ _ _, fun a W2 hA hb hd => ?_⟩
    obtain ⟨g0, e0, i0, _⟩ := hd 0 (by simp) _ rfl
    obtain ⟨g1, e1, i1, _⟩ := hd 1 (by simp) _ rfl
    have h0 : a.tmps[12]?.getD undef = .slice (some ⟨g0, 0, none⟩) 16 16 := (eval_get a 12).trans e0
    have h1 : a.tmps[13]?.getD undef = .slice (some ⟨g1, 0, none⟩) 12 12 := (eval_get a 13).trans e1
    have h2 : a.tmps[14]?.getD undef = .slice A9 16 c9 := (eval_get a 14).trans (hd 2 (by simp) _ rfl)
    refine yields_call 35 #[.slice (some ⟨g0, 0, none⟩) 16 16, .slice (some ⟨g1, 0, none⟩) 12 12, .slice none 0 0, .slice A9 16 c9] (by go_simp) ((HOP.out _ _ _ _ W2 i0 i1 (I9.out.ab hb)).mono ?_)
    rintro e W' ⟨v, rfl, hv, hb'⟩
    exact ⟨_, rfl, ⟨v, rfl, hv.lower hb.size⟩, hb'⟩
  · refine ⟨rfl, rfl, TupB.mono _ _ _, fun a W2 hA hb hd => ?_⟩
    obtain ⟨v0, e0, ho⟩ := hd 3 (by simp) _ rfl
    have h0 : a.tmps[15]?.getD undef = .tuple #[v0, .int .i64 ((0 : Nat) : Int)] := (eval_get a 15).trans e0
    refine yields_value (.tuple #[v0, .int .i64 ((0 : Nat) : Int)]) ?_ ⟨v0, rfl, ho⟩
    go_simp
  · refine ⟨rfl, rfl, OwR.mono _ _, fun a W2 hA hb hd => ?_⟩
    obtain ⟨v0, e0, ho⟩ := hd 4 (by simp) _ rfl
    have h0 : a.tmps[11]?.getD undef = .tuple #[v0, .int .i64 ((0 : Nat) : Int)] := (eval_get a 11).trans e0
    refine yields_value v0 ?_ ho
    go_simp
  · refine ⟨rfl, rfl, IsR.mono _, fun a W2 hA hb hd => ?_⟩
    obtain ⟨v0, e0, ho⟩ := hd 4 (by simp) _ rfl
    have h0 : a.tmps[11]?.getD undef = .tuple #[v0, .int .i64 ((0 : Nat) : Int)] := (eval_get a 11).trans e0
    refine yields_value _ ?_ rfl
    go_simp
  · refine ⟨rfl, rfl, OwR.mono _ _, fun a W2 hA hb hd => ?_⟩
    have ho : OwB W2 W.heap.size (a.eval (.tmp 16)) [] := hd 5 (by simp) _ rfl
    exact yields_value (a.eval (.tmp 16)) (exec_assign (.tmp 16) rfl W2) ho
  intro vs W2 hR hF hb
  have e17 : vs 17 = .int .i64 0 := hR 6 _ rfl
  have h16 : OwB W2 W.heap.size (vs 3) [] := hR 7 _ rfl
  have e14 : vs 14 = .slice A9 16 c9 := hR 2 _ rfl
  simp only [List.map_cons, List.map_nil, List.foldl_cons, List.foldl_nil, List.length_cons, List.length_nil, List.drop_succ_cons, List.drop_zero, Act.put, List.setIfInBounds_toArray, List.set_cons_zero, List.set_cons_succ, e17, e14]
  generalize vs 16 = v16 at *
  generalize vs 3 = v3 at *
  generalize vs 15 = v15 at *
  generalize vs 13 = v13 at *
  generalize vs 12 = v12 at *
  generalize vs 11 = v11 at *
  obtain ⟨A16, c16, rfl, -, -⟩ := h16.shape
  have I2 := Lib.hid (I9.out.ab hb)
  have B2 := Lib.hid (below_tr B9.out hb B9.out.size)
  clear hR hF hb e17 e14 h16 HOP
  have hst : (convert 22 9 (.slice A9 gm16.length c9)).run Try.prog W2 = .ok (.string (strOf gm16)) W2 := run_str I2.out _ _ _ Try.underlying22 Try.underlying5 Try.underlying9
  go_wp2_with fail
  go_ret
  exact ⟨by rw [gm_str]; rfl, B2.out⟩
set_option maxRecDepth 100000 in
set_option maxHeartbeats 1000000 in
theorem few6_any (A : Option Addr) (n c : Nat) (w : World) :
    Calls Try.prog 31 #[.slice A n c] w fun e w' => e = .returned (.bool (decide (n ≤ 400 ∨ 65552 < n))) ∧ w = w' := by
  by_cases h : n ≤ 400
  · have h1 : decide ((n : Int) ≤ 400) = true := by simp; omega
    rw [decide_eq_true (Or.inl h)]
    clear h
    go_enter Try.func31, Try.ntmps31
    go_wp2_with fail
    go_ret
    exact ⟨rfl, rfl⟩
  · have h1 : decide ((n : Int) ≤ 400) = false := by simp; omega
    obtain ⟨b, hb⟩ : ∃ b, b = decide (65552 < n) := ⟨_, rfl⟩
    have h2 : decide (65552 < (n : Int)) = b := by rw [hb, decide_eq_decide]; omega
    have h3 : decide (n ≤ 400 ∨ 65552 < n) = b := by rw [hb, decide_eq_decide]; omega
    rw [h3]
    clear h hb h3
    go_enter Try.func31, Try.ntmps31
    go_wp2_with fail
    go_ret
    exact ⟨by first | rfl | (rw [h2]), rfl⟩
end Go.Proofs.Ytpofndciepoooaa
