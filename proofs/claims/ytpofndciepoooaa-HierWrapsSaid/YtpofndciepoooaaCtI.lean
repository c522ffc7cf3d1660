/-
  FOR THE LAWS of layer 5: the refusals; what is known.
-/
import Derived.Test.YtpofndciepoooaaCtH
import Derived.Test.YtpofndciepoooaaOct
import Derived.Test.YtpofndciepoooaaHeads
namespace Go.Proofs.Ytpofndciepoooaa
open Go.RowKit
set_option linter.unusedVariables false

def ctC : List Nat := [0x03, 0x88, 0xda, 0xce, 0x60, 0xb6, 0xa3, 0x92, 0xf3, 0x28, 0xc2, 0xb9, 0x71, 0xb2, 0xfe, 0x78]
theorem ct_known : cryptA (zeros 16) (zeros 12) (zeros 16) = ctC := by decide +kernel

theorem ct_str : ((strOf ctC).toList == [3, 136, 218, 206, 96, 182, 163, 146, 243, 40, 194, 185, 113, 178, 254, 120]) = true := by decide +kernel
/-- the bytes of an error, and what has been handed back -/
theorem OutB.form {w w' : World} {l : List Nat} {err : Nat} {e : Ending} (h : OutB w l err e w') : ∃ A c, e = .returned (.tuple #[.slice A l.length c, .int .i64 (err : Int)]) ∧ IsB w' A l.length c l ∧ Below w.heap.size w w' := by
  obtain ⟨v, rfl, ho, hb⟩ := h
  obtain ⟨A, c, rfl, h1, h2⟩ := ho.shape
  exact ⟨A, c, rfl, ho.isB rfl, hb⟩

set_option maxRecDepth 100000 in
set_option maxHeartbeats 4000000 in
theorem known5_any (w : World) : Calls Try.prog 26 #[] w fun e w' => e = .returned (.bool true) ∧ Below w.heap.size w w' := by
  have hcr := fun kA nA tA W h1 h2 h3 => crypt_ok kA nA tA 16 16 12 16 16 (zeros 16) (zeros 12) (zeros 16) W (.inl (by decide)) h1 h2 h3 (by decide)
  rw [ct_known] at hcr
  have HCR := Lib.hid hcr
  clear hcr
  go_enter Try.func26, Try.ntmps26
  go_wp2_with fail
  refine wp_heads3 6 (fun _ => True) (by kernel_rfl) rfl rfl rfl rfl (by kernel_rfl) (head_make 16 (by decide) rfl rfl rfl) (head_make 12 (by decide) rfl rfl rfl) (head_make 16 (by decide) rfl rfl rfl) (MadeR.mono _ _) (MadeR.mono _ _) (MadeR.mono _ _) (by decide) (by decide) (by decide) trivial (fun _ _ h => h) (fun _ _ h => h) (fun _ _ h => h) ?_
  rintro v0 v1 v2 w1 ⟨g0, rfl, i0, _⟩ ⟨g1, rfl, i1, _⟩ ⟨g2, rfl, i2, _⟩ hb1
  simp only [Act.put, List.setIfInBounds_toArray, List.set_cons_zero, List.set_cons_succ]
  refine any_call (k := 3) (fn := 27) (by kernel_rfl) rfl rfl rfl (by go_simp) ((HCR.out _ _ _ _ i0 i1 i2).mono fun e w2 ho => ?_)
  obtain ⟨A, c, rfl, hin, hb2⟩ := ho.form
  have B2 := Lib.hid (below_tr hb1 hb2 hb1.size)
  have IN := Lib.hid hin
  clear i0 i1 i2 hb1 hb2 hin
  refine ⟨_, rfl, ?_⟩
  simp only [Act.put, List.setIfInBounds_toArray, List.set_cons_zero, List.set_cons_succ]
  refine any_quiet (k := 4) 8 (fun w' => w' = w2) (by decide) rfl (by kernel_rfl) rfl ?_
  simp only [List.take_succ_cons, List.take_zero, List.drop_succ_cons, List.drop_zero]
  refine quiet_value (v := ?qv0) (by rfl) ?qh0 ?qk0
  case qh0 => (intro w' hw'; go_simp; rfl)
  simp only [Act.put, List.setIfInBounds_toArray, List.set_cons_zero, List.set_cons_succ]
  refine quiet_value (v := ?qv1) (by rfl) ?qh1 ?qk1
  case qh1 => (intro w' hw'; go_simp; rfl)
  simp only [Act.put, List.setIfInBounds_toArray, List.set_cons_zero, List.set_cons_succ]
  refine quiet_value (v := ?qv2) (by rfl) ?qh2 ?qk2
  case qh2 => (intro w' hw'; go_simp; rfl)
  simp only [Act.put, List.setIfInBounds_toArray, List.set_cons_zero, List.set_cons_succ]
  refine quiet_value (v := ?qv3) (by rfl) ?qh3 ?qk3
  case qh3 => (intro w' hw'; go_simp; rfl)
  simp only [Act.put, List.setIfInBounds_toArray, List.set_cons_zero, List.set_cons_succ]
  refine wpQuiet_nil ?_
  rintro w3 rfl
  have hst : (convert 22 9 (.slice A ctC.length c)).run Try.prog w3 = .ok (.string (strOf ctC)) w3 := run_str IN.out _ _ _ Try.underlying22 Try.underlying5 Try.underlying9
  go_wp2_with fail
  go_ret
  exact ⟨by rw [ct_str]; rfl, B2.out⟩

/-! the refusals -/
set_option maxRecDepth 100000 in
set_option maxHeartbeats 1000000 in
theorem first_bad (A : Option Addr) (n c : Nat) (w : World) (hn : n ≠ 12) :
    Calls Try.prog 21 #[.slice A n c] w fun e w' => e = .returned (.tuple #[.agg (bts z16), .int .i64 2]) ∧ Below w.heap.size w w' := by
  have h1 : ((n : Int) != 12) = true := by simp; omega
  have hz : z16.length = 16 := rfl
  have B1 : Hid (Bk (w.alloc (.cells (bts z16) 23)) w.heap.size 23 z16) := Lib.hid (Bk.newAt _ z16 rfl)
  have B2 : Hid (Below w.heap.size w (w.alloc (.cells (bts z16) 23))) := Lib.hid ((Below.refl _ _).alloc (Nat.le_refl _) _)
  go_enter Try.func21, Try.ntmps21
  go_wp2_with (refine wpList_storeN (l := z16) (o := ⟨none, .store _ (.tmp 2) (.tmp 8), _, _, _, _⟩) rfl 23 (.tmp 2) (.tmp 8) rfl w.heap.size rfl z16 rfl (t := 23) ?_ sz16 rfl ?_
               · exact B1.out
               intro w2 hw2
               have C1 : Hid (Bk w2 w.heap.size 23 z16) := Lib.hid (by rw [hw2]; exact B1.out.row _)
               have C2 : Hid (Below w.heap.size w w2) := Lib.hid (by rw [hw2]; exact Below.row B2.out (Nat.le_refl _) _)
               clear hw2)
  refine bodyPost_ret (results_bts2 Try.results21 _ _ _ rfl C1.out Try.underlying23 sz16) rfl ?_
  exact ⟨rfl, C2.out⟩

set_option maxRecDepth 100000 in
set_option maxHeartbeats 1000000 in
theorem crypt_key (kA nA tA : Option Addr) (kn kc nn nc tn tc : Nat) (w : World) (h1 : kn ≠ 16) (h2 : kn ≠ 32) :
    Calls Try.prog 27 #[.slice kA kn kc, .slice nA nn nc, .slice tA tn tc] w (OutB w [] 2) := by
  have hn := new_bad kA kn kc h1 h2 w
  go_enter Try.func27, Try.ntmps27
  go_wp2_with fail
  refine hn.mono ?_
  rintro e w' ⟨rfl, rfl⟩
  go_wp2_with fail
  go_ret2
  exact OutB.refused 2 (Below.refl _ _)
set_option maxRecDepth 100000 in
set_option maxHeartbeats 1000000 in
theorem crypt_nonce (kA nA tA : Option Addr) (kn kc nn nc tn tc : Nat) (key : List Nat) (w : World) (hK : KeyOk key) (ik : IsB w kA kn kc key) (hn : nn ≠ 12) :
    Calls Try.prog 27 #[.slice kA kn kc, .slice nA nn nc, .slice tA tn tc] w (OutB w [] 2) := by
  have lk := ik.len
  have hnew := new_any (key.length / 4) kn key kA kc w hK.four (by rw [← lk]; exact hK.len) ik
  have HN := Lib.hid hnew
  clear hnew ik hK lk
  go_enter Try.func27, Try.ntmps27
  go_wp2_with fail
  refine HN.out.mono ?_
  rintro e w1 ⟨b, g, rfl, hbg, hwb, hC, hb1⟩
  have R2 := Lib.hid hb1
  clear hb1 hC hbg hwb
  go_wp2_with fail
  refine (first_bad nA nn nc w1 hn).mono ?_
  rintro e w2 ⟨rfl, hb2⟩
  have S2 : Hid (Below w.heap.size w w2) := Lib.hid (below_tr R2.out hb2 R2.out.size)
  clear hb2
  go_wp2_with (refine wpList_storeN (l := z16) (o := ⟨none, .store _ (.tmp 10) (.tmp 26), _, _, _, _⟩) rfl 23 (.tmp 10) (.tmp 26) rfl w2.heap.size rfl z16 rfl (t := 23) ?_ sz16 rfl ?_
               · exact Bk.newAt _ z16 rfl
               intro w3 hw3
               have T2 : Hid (Below w.heap.size w w3) := Lib.hid (by rw [hw3]; exact Below.row (S2.out.alloc S2.out.size _) S2.out.size _)
               clear hw3)
  go_ret2
  exact OutB.refused 2 T2.out
set_option maxRecDepth 100000 in
set_option maxHeartbeats 1000000 in
theorem crypt_long (kA nA tA : Option Addr) (kn kc nc tn tc : Nat) (key nonce : List Nat) (w : World) (hK : KeyOk key) (ik : IsB w kA kn kc key) (inn : IsB w nA 12 nc nonce) (ht : 65536 < tn) :
    Calls Try.prog 27 #[.slice kA kn kc, .slice nA 12 nc, .slice tA tn tc] w (OutB w [] 3) := by
  have lk := ik.len
  have hnew := new_any (key.length / 4) kn key kA kc w hK.four (by rw [← lk]; exact hK.len) ik
  have HN := Lib.hid hnew
  have IN := Lib.hid inn
  have lf : (firstC nonce).length = 16 := firstC_len inn.len
  have hti : decide (65536 < (tn : Int)) = true := by simp; omega
  clear hnew ik hK lk inn
  generalize hF : firstC nonce = F at *
  have HF := Lib.hid hF
  have LF := Lib.hid lf
  clear hF lf
  go_enter Try.func27, Try.ntmps27
  go_wp2_with fail
  refine HN.out.mono ?_
  rintro e w1 ⟨b, g, rfl, hbg, hwb, hC, hb1⟩
  have R2 := Lib.hid hb1
  have R4 : Hid (IsB w1 nA 12 nc nonce) := Lib.hid (IN.out.ab hb1)
  clear hb1 hC hbg hwb
  go_wp2_with fail
  refine (first_any nA nc nonce w1 R4.out).mono ?_
  rintro e w2 ⟨rfl, hb2⟩
  rw [HF.out]
  have S2 : Hid (Below w.heap.size w w2) := Lib.hid (below_tr R2.out hb2 R2.out.size)
  clear hb2
  go_wp2_with (refine wpList_storeN (l := z16) (o := ⟨none, .store _ (.tmp 10) (.tmp 26), _, _, _, _⟩) rfl 23 (.tmp 10) (.tmp 26) rfl w2.heap.size rfl F rfl (t := 23) ?_ (by rw [LF.out]; exact sz16) (by rw [LF.out]; rfl) ?_
               · exact Bk.newAt _ z16 rfl
               intro w3 hw3
               have T2 : Hid (Below w.heap.size w w3) := Lib.hid (by rw [hw3]; exact Below.row (S2.out.alloc S2.out.size _) S2.out.size _)
               clear hw3)
  go_ret2
  exact OutB.refused 3 T2.out
/-- P5.2 of the program, whatever comes in -/
theorem crypt_any (kA nA tA : Option Addr) (kn kc nn nc tn tc : Nat) (key nonce text : List Nat) (w : World) (ik : IsB w kA kn kc key) (inn : IsB w nA nn nc nonce) (it : IsB w tA tn tc text) :
    Calls Try.prog 27 #[.slice kA kn kc, .slice nA nn nc, .slice tA tn tc] w (OutB w (cryptS key nonce text).1 (cryptS key nonce text).2) := by
  have lk := ik.len
  have ln := inn.len
  have lt := it.len
  by_cases hK : KeyOk key
  · by_cases hn : nn = 12
    · subst hn
      rcases Nat.lt_or_ge 65536 tn with ht | ht
      · rw [cryptS_long hK ln (by omega)]
        exact crypt_long kA nA tA kn kc nc tn tc key nonce w hK ik inn ht
      · rw [cryptS_ok hK ln (by omega)]
        exact crypt_ok kA nA tA kn kc nc tn tc key nonce text w hK ik inn it ht
    · rw [cryptS_arg (fun h => hn (by rw [← ln]; exact h.2))]
      exact crypt_nonce kA nA tA kn kc nn nc tn tc key w hK ik hn
  · rw [cryptS_arg (fun h => hK h.1)]
    exact crypt_key kA nA tA kn kc nn nc tn tc w (fun h => hK (.inl (by omega))) (fun h => hK (.inr (by omega)))
end Go.Proofs.Ytpofndciepoooaa
