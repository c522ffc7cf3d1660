/-
  CtrBlocks and CtrBack: the walks.
-/
import Derived.Test.YtpofndciepoooaaCtJ
namespace Go.Proofs.Ytpofndciepoooaa
open Go.RowKit
set_option linter.unusedVariables false

set_option maxRecDepth 100000 in
theorem open16' {w : World} {r : Reach} {base : Nat} {v : Value} (h : Value.okWide Try.prog w r base 23 v) : ∃ l, v = .agg (bts l) ∧ Byt l ∧ l.length = 16 :=
  okWide_bytes (ts := List.replicate 16 5) Try.underlying23 Try.underlying5 (by kernel_rfl) (by kernel_rfl) (fun u hu => List.eq_of_mem_replicate hu) h
theorem eq16_yes (a : List Nat) (ha : a.length = 16) (w : World) : (Op.equalIn 10000 23 (.agg (bts a)) (.agg (bts a))).run Try.prog w = .ok true w := by
  rw [eq16 a a ha ha w]; simp
theorem known5_ab {w0 : World} (w' : World) (h : AbW w0 w') : Calls Try.prog 26 #[] w' fun e w'' => e = .returned (.bool true) ∧ AbW w0 w'' := (known5_any w').mono fun e w'' hh => ⟨hh.1, AbW.call h hh.2⟩
set_option maxRecDepth 100000 in
set_option maxHeartbeats 4000000 in
theorem blocks_any (A : Option Addr) (n c : Nat) (nonce x : List Nat) (w : World) (hin : IsB w A n c nonce) (hc : c ≤ 140737488351232) (hx : Byt x) (lx : x.length = 16) :
    Calls Try.prog 3 #[.slice A n c, .agg (bts x)] w fun e w' => e = .returned (.bool true) ∧ Below w.heap.size w w' := by
  have lc := hin.1.lenCap
  have ln := hin.len
  have hcp : Calls Try.prog 22 #[.slice A n c] (w.alloc (.cells (bts x) 23)) fun e w' => e = .returned (.slice (some ⟨w.heap.size + 1, 0, none⟩) n (n + 3)) ∧ IsB w' (some ⟨w.heap.size + 1, 0, none⟩) n (n + 3) nonce ∧ Below (w.alloc (.cells (bts x) 23)).heap.size (w.alloc (.cells (bts x) 23)) w' := by
    have := copy_isB A n c nonce _ (hin.alloc (.cells (bts x) 23)) (by omega)
    rw [show (w.alloc (.cells (bts x) 23)).heap.size = w.heap.size + 1 from by simp] at this ⊢
    exact this
  have XB : Hid (Bk (w.alloc (.cells (bts x) 23)) w.heap.size 23 x) := Lib.hid (Bk.newAt _ x rfl)
  have BB : Hid (Below w.heap.size w (w.alloc (.cells (bts x) 23))) := Lib.hid ((Below.refl _ _).alloc (Nat.le_refl _) _)
  have HIN := Lib.hid (hin.alloc (.cells (bts x) 23))
  have HCP := Lib.hid hcp
  have LN := Lib.hid ln
  have LX := Lib.hid lx
  have NZ := nextC_len lx
  have HNX := Lib.hid (fun W => next_any x hx lx W)
  have HRN := Lib.hid (fun W => rNext_any x hx lx W)
  generalize nextC x = z at *
  have HEZ := eq16_yes z NZ
  have LZ := Lib.hid NZ
  clear hcp hin ln lx NZ lc hc
  obtain ⟨F, err, hfir, hlf, hcase⟩ : ∃ F err, (∀ A c W, IsB W A n c nonce → Calls Try.prog 21 #[.slice A n c] W fun e w' => e = .returned (.tuple #[.agg (bts F), .int .i64 (err : Nat)]) ∧ Below W.heap.size W w') ∧ F.length = 16 ∧
      ((n = 12 ∧ F = firstC nonce ∧ err = 0) ∨ (n ≠ 12 ∧ F = z16 ∧ err = 2)) := by
    by_cases h12 : n = 12
    · subst h12
      exact ⟨firstC nonce, 0, fun A c W h => first_any A c nonce W h, firstC_len LN.out, .inl ⟨rfl, rfl, rfl⟩⟩
    · exact ⟨z16, 2, fun A c W h => first_bad A n c W h12, rfl, .inr ⟨h12, rfl, rfl⟩⟩
  have HF := Lib.hid hfir
  have LF := Lib.hid hlf
  have HC := Lib.hid hcase
  have HEF := eq16_yes F hlf
  clear hfir hlf hcase
  go_enter Try.func3, Try.ntmps3
  go_wp2_with fail
  refine HCP.out.mono ?_
  rintro e w1 ⟨rfl, i1, b1⟩
  have I1 := Lib.hid i1
  have X1 := Lib.hid (XB.out.ab b1)
  have H1 := Lib.hid (HIN.out.ab b1)
  have B1 := Lib.hid (below_tr BB.out b1 BB.out.size)
  clear i1 b1 XB HIN BB
  go_wp2_with fail
  refine (HF.out _ _ _ I1.out).mono ?_
  rintro e w2 ⟨rfl, b2⟩
  have X2 := Lib.hid (X1.out.ab b2)
  have H2 := Lib.hid (H1.out.ab b2)
  have B2 := Lib.hid (below_tr B1.out b2 B1.out.size)
  clear b2 X1 H1 I1 B1
  rcases HC.out with ⟨hn, hf, rfl⟩ | ⟨hn, hf, rfl⟩
  all_goals
    have HFE := Lib.hid hf
    clear HC hf
  · subst hn
    go_wp2_with (refine wpList_storeN (l := z16) (o := ⟨none, .store _ (.tmp 5) (.tmp 11), _, _, _, _⟩) rfl 23 (.tmp 5) (.tmp 11) rfl w2.heap.size rfl F rfl (t := 23) ?_ (by rw [LF.out]; exact sz16) (by rw [LF.out]; rfl) ?_
                 · exact Bk.newAt _ z16 rfl
                 intro w3 hw3
                 have F3 : Hid (Bk w3 w2.heap.size 23 F) := Lib.hid (by rw [hw3]; exact (show Bk (w2.alloc (.cells (bts z16) 23)) w2.heap.size 23 z16 from Bk.newAt _ z16 rfl).row _)
                 have X3 : Hid (Bk w3 w.heap.size 23 x) := Lib.hid (by rw [hw3]; exact (X2.out.alloc _).rowFar (by have := X2.out.lt; omega) _)
                 have H3 : Hid (IsB w3 A 12 c nonce) := Lib.hid (by rw [hw3]; exact (H2.out.ab (Below.row ((Below.refl _ _).alloc (Nat.le_refl _) _) (Nat.le_refl _) _)))
                 have B3 : Hid (Below w.heap.size w w3) := Lib.hid (by rw [hw3]; exact Below.row (B2.out.alloc B2.out.size _) B2.out.size _)
                 clear hw3)
    have hrf : ∀ W, IsB W A 12 c nonce → Calls Try.prog 23 #[.slice A 12 c] W fun e w' => e = .returned (.agg (bts F)) ∧ Below W.heap.size W w' := fun W h => by rw [HFE.out]; exact rFirst_any A c nonce W h
    have HRF := Lib.hid hrf
    clear hrf
    refine wp_quiet_tail 7 (AbW w3.drew) (AbW.refl _) (by kernel_rfl) (by kernel_rfl) ?_
    simp only [List.take_succ_cons, List.take_zero, List.drop_succ_cons, List.drop_zero]
    refine quiet_loadB (l := F) (t := 23) (by rfl) 23 (.tmp 5) rfl w2.heap.size rfl (fun w' h => F3.out.drew.ab h) Try.underlying23 (by rw [LF.out]; exact sz16) ?_
    simp only [Act.put, List.setIfInBounds_toArray, List.set_cons_zero, List.set_cons_succ]
    refine quiet_value (v := ?qva1) (by rfl) ?qha1 ?qka1
    case qha1 => (intro w' hw'; go_simp; rfl)
    simp only [Act.put, List.setIfInBounds_toArray, List.set_cons_zero, List.set_cons_succ]
    refine quiet_call (v := .agg (bts F)) (f := 23) (args := #[.slice A 12 c]) (by rfl) (fun w' => by go_simp) (fun w' h => (HRF.out w' (H3.out.drew.below h)).mono fun e w'' hh => ⟨hh.1, AbW.call h hh.2⟩) ?_
    simp only [Act.put, List.setIfInBounds_toArray, List.set_cons_zero, List.set_cons_succ]
    refine quiet_value (v := ?qva3) (by rfl) ?qha3 ?qka3
    case qha3 => (intro w' hw'; go_simp; rfl)
    simp only [Act.put, List.setIfInBounds_toArray, List.set_cons_zero, List.set_cons_succ]
    refine quiet_value (v := ?qva4) (by rfl) ?qha4 ?qka4
    case qha4 => (intro w' hw'; go_simp; rfl)
    simp only [Act.put, List.setIfInBounds_toArray, List.set_cons_zero, List.set_cons_succ]
    refine quiet_value (v := ?qva5) (by rfl) ?qha5 ?qka5
    case qha5 => (intro w' hw'; go_simp; rfl)
    simp only [Act.put, List.setIfInBounds_toArray, List.set_cons_zero, List.set_cons_succ]
    refine quiet_value (v := ?qva6) (by rfl) ?qha6 ?qka6
    case qha6 => (intro w' hw'; go_simp; rfl)
    simp only [Act.put, List.setIfInBounds_toArray, List.set_cons_zero, List.set_cons_succ]
    refine wpQuiet_nil ?_
    intro w5 h5
    have X5 : Hid (Bk w5 w.heap.size 23 x) := Lib.hid (X3.out.drew.ab h5)
    have B5 : Hid (Below w.heap.size w w5) := Lib.hid (below_tr B3.out.drew h5 B3.out.size)
    clear h5
    go_wp2_with fail
    refine wp_quiet_tail 8 (AbW w5.drew) (AbW.refl _) (by kernel_rfl) (by kernel_rfl) ?_
    simp only [List.take_succ_cons, List.take_zero, List.drop_succ_cons, List.drop_zero]
    refine quiet_loadB (l := x) (t := 23) (by rfl) 23 (.tmp 3) rfl w.heap.size rfl (fun w' h => X5.out.drew.ab h) Try.underlying23 (by rw [LX.out]; exact sz16) ?_
    simp only [Act.put, List.setIfInBounds_toArray, List.set_cons_zero, List.set_cons_succ]
    refine quiet_call (v := .agg (bts z)) (f := 24) (args := #[.agg (bts x)]) (by rfl) (fun w' => by go_simp) (fun w' h => (HNX.out w').mono fun e w'' hh => ⟨hh.1, AbW.call h hh.2⟩) ?_
    simp only [Act.put, List.setIfInBounds_toArray, List.set_cons_zero, List.set_cons_succ]
    refine quiet_loadB (l := x) (t := 23) (by rfl) 23 (.tmp 3) rfl w.heap.size rfl (fun w' h => X5.out.drew.ab h) Try.underlying23 (by rw [LX.out]; exact sz16) ?_
    simp only [Act.put, List.setIfInBounds_toArray, List.set_cons_zero, List.set_cons_succ]
    refine quiet_call (v := .agg (bts z)) (f := 25) (args := #[.agg (bts x)]) (by rfl) (fun w' => by go_simp) (fun w' h => (HRN.out w').mono fun e w'' hh => ⟨hh.1, AbW.call h hh.2⟩) ?_
    simp only [Act.put, List.setIfInBounds_toArray, List.set_cons_zero, List.set_cons_succ]
    refine quiet_value (v := ?qvb4) (by rfl) ?qhb4 ?qkb4
    case qhb4 => (intro w' hw'; go_simp; rfl)
    simp only [Act.put, List.setIfInBounds_toArray, List.set_cons_zero, List.set_cons_succ]
    refine quiet_value (v := ?qvb5) (by rfl) ?qhb5 ?qkb5
    case qhb5 => (intro w' hw'; go_simp; rfl)
    simp only [Act.put, List.setIfInBounds_toArray, List.set_cons_zero, List.set_cons_succ]
    refine quiet_call (v := .bool true) (f := 26) (args := #[]) (by rfl) (fun w' => by go_simp) (fun w' h => known5_ab w' h) ?_
    simp only [Act.put, List.setIfInBounds_toArray, List.set_cons_zero, List.set_cons_succ]
    refine quiet_value (v := ?qvb7) (by rfl) ?qhb7 ?qkb7
    case qhb7 => (intro w' hw'; go_simp; rfl)
    simp only [Act.put, List.setIfInBounds_toArray, List.set_cons_zero, List.set_cons_succ]
    refine wpQuiet_nil ?_
    intro w6 h6
    have B6 : Hid (Below w.heap.size w w6) := Lib.hid (below_tr B5.out.drew h6 B5.out.size)
    clear h6
    go_wp2_with fail
    go_ret
    exact ⟨rfl, B6.out⟩
  · have hnn : ((n : Int) != 12) = true := by simp; omega
    have HEF0 : ∀ w, (Op.equalIn 10000 23 (.agg (bts F)) (.agg #[.int .u8 0, .int .u8 0, .int .u8 0, .int .u8 0, .int .u8 0, .int .u8 0, .int .u8 0, .int .u8 0, .int .u8 0, .int .u8 0, .int .u8 0, .int .u8 0, .int .u8 0, .int .u8 0, .int .u8 0, .int .u8 0])).run Try.prog w = .ok true w := by rw [HFE.out]; exact eq16_yes z16 rfl
    clear hn
    go_wp2_with (first
      | (refine wpList_storeN (l := z16) (o := ⟨none, .store _ (.tmp 5) (.tmp 11), _, _, _, _⟩) rfl 23 (.tmp 5) (.tmp 11) rfl w2.heap.size rfl F rfl (t := 23) ?_ (by rw [LF.out]; exact sz16) (by rw [LF.out]; rfl) ?_
         · exact Bk.newAt _ z16 rfl
         intro w3 hw3
         have F3 : Hid (Bk w3 w2.heap.size 23 F) := Lib.hid (by rw [hw3]; exact (show Bk (w2.alloc (.cells (bts z16) 23)) w2.heap.size 23 z16 from Bk.newAt _ z16 rfl).row _)
         have X3 : Hid (Bk w3 w.heap.size 23 x) := Lib.hid (by rw [hw3]; exact (X2.out.alloc _).rowFar (by have := X2.out.lt; omega) _)
         have B3 : Hid (Below w.heap.size w w3) := Lib.hid (by rw [hw3]; exact Below.row (B2.out.alloc B2.out.size _) B2.out.size _)
         clear hw3)
      | (refine wpList_loadB (l := F) (o := ⟨some 16, _, _, _, _, _⟩) rfl 23 (.tmp 5) rfl w2.heap.size rfl (t := 23) ?_ Try.underlying23 (by rw [LF.out]; exact sz16) ?_
         · exact F3.out))
    refine wp_quiet_tail 8 (AbW w3.drew) (AbW.refl _) (by kernel_rfl) (by kernel_rfl) ?_
    simp only [List.take_succ_cons, List.take_zero, List.drop_succ_cons, List.drop_zero]
    refine quiet_loadB (l := x) (t := 23) (by rfl) 23 (.tmp 3) rfl w.heap.size rfl (fun w' h => X3.out.drew.ab h) Try.underlying23 (by rw [LX.out]; exact sz16) ?_
    simp only [Act.put, List.setIfInBounds_toArray, List.set_cons_zero, List.set_cons_succ]
    refine quiet_call (v := .agg (bts z)) (f := 24) (args := #[.agg (bts x)]) (by rfl) (fun w' => by go_simp) (fun w' h => (HNX.out w').mono fun e w'' hh => ⟨hh.1, AbW.call h hh.2⟩) ?_
    simp only [Act.put, List.setIfInBounds_toArray, List.set_cons_zero, List.set_cons_succ]
    refine quiet_loadB (l := x) (t := 23) (by rfl) 23 (.tmp 3) rfl w.heap.size rfl (fun w' h => X3.out.drew.ab h) Try.underlying23 (by rw [LX.out]; exact sz16) ?_
    simp only [Act.put, List.setIfInBounds_toArray, List.set_cons_zero, List.set_cons_succ]
    refine quiet_call (v := .agg (bts z)) (f := 25) (args := #[.agg (bts x)]) (by rfl) (fun w' => by go_simp) (fun w' h => (HRN.out w').mono fun e w'' hh => ⟨hh.1, AbW.call h hh.2⟩) ?_
    simp only [Act.put, List.setIfInBounds_toArray, List.set_cons_zero, List.set_cons_succ]
    refine quiet_value (v := ?qvc4) (by rfl) ?qhc4 ?qkc4
    case qhc4 => (intro w' hw'; go_simp; rfl)
    simp only [Act.put, List.setIfInBounds_toArray, List.set_cons_zero, List.set_cons_succ]
    refine quiet_value (v := ?qvc5) (by rfl) ?qhc5 ?qkc5
    case qhc5 => (intro w' hw'; go_simp; rfl)
    simp only [Act.put, List.setIfInBounds_toArray, List.set_cons_zero, List.set_cons_succ]
    refine quiet_call (v := .bool true) (f := 26) (args := #[]) (by rfl) (fun w' => by go_simp) (fun w' h => known5_ab w' h) ?_
    simp only [Act.put, List.setIfInBounds_toArray, List.set_cons_zero, List.set_cons_succ]
    refine quiet_value (v := ?qvc7) (by rfl) ?qhc7 ?qkc7
    case qhc7 => (intro w' hw'; go_simp; rfl)
    simp only [Act.put, List.setIfInBounds_toArray, List.set_cons_zero, List.set_cons_succ]
    refine wpQuiet_nil ?_
    intro w6 h6
    have B6 : Hid (Below w.heap.size w w6) := Lib.hid (below_tr B3.out.drew h6 B3.out.size)
    clear h6
    go_wp2_with fail
    go_ret
    exact ⟨rfl, B6.out⟩
set_option maxRecDepth 100000 in
theorem blocks_walk (A : Option Addr) (n c : Nat) (zs : List Int) (v : Value) (w : World) (h : IsRow .u8 w A n c zs) (hs : c * 1 ≤ 140737488351232) (hk : ∃ base, Value.okWide Try.prog w .any base 23 v) {H : Type} {enc : TypeId × Value → H} {d : DataW H} {p : List MemPlace} (_ : DataW.Trod enc Try.prog w 0 (fun _ => true) true 23 v d p) (_ : ∀ x ∈ p, x.block < w.heap.size) :
    Calls Try.prog 3 #[.slice A n c, v] w fun e w' => e = .returned (.bool true) ∧ Below w.heap.size w w' := by
  obtain ⟨l, rfl, hl⟩ := byt_of_row h
  obtain ⟨base, hk⟩ := hk
  obtain ⟨x, rfl, hx, lx⟩ := open16' hk
  exact blocks_any A n c l x w ⟨h, hl⟩ (by omega) hx lx
end Go.Proofs.Ytpofndciepoooaa
