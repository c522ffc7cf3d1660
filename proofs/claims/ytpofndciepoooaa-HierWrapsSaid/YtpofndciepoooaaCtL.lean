/-
  CtrBack: the walk.
-/
import Derived.Test.YtpofndciepoooaaCtK
namespace Go.Proofs.Ytpofndciepoooaa
open Go.RowKit
set_option linter.unusedVariables false

theorem IsB.take {w : World} {A : Option Addr} {n c : Nat} {l : List Nat} (h : IsB w A n c l) {m : Nat} (hm : m ≤ n) : IsB w A m c (l.take m) := by
  have := h.1.take hm
  rw [← List.map_take] at this
  exact ⟨this, byt_take h.2 m⟩
theorem str_ab {w0 : World} {A : Option Addr} {n c : Nat} {l : List Nat} (h : IsB w0 A n c l) : ∀ w', AbW w0 w' → (convert 22 9 (.slice A n c)).run Try.prog w' = .ok (.string (strOf l)) w' := fun w' hw => run_str (h.below hw) _ _ _ Try.underlying22 Try.underlying5 Try.underlying9
set_option maxRecDepth 100000 in
set_option maxHeartbeats 2000000 in
theorem back_bad (kA nA tA : Option Addr) (kn kc nn nc tn tc : Nat) (cut : Int) (key nonce text : List Nat) (w : World) (ik : IsB w kA kn kc key) (inn : IsB w nA nn nc nonce) (it : IsB w tA tn tc text) (ht : tn ≤ 2000) (hb : ¬ (KeyOk key ∧ nonce.length = 12)) :
    Calls Try.prog 5 #[.slice kA kn kc, .slice nA nn nc, .slice tA tn tc, .int .i64 cut] w fun e w' => e = .returned (.bool true) ∧ Below w.heap.size w w' := by
  have lk := ik.len
  have ln := inn.len
  have hcr := crypt_any kA nA tA kn kc nn nc tn tc key nonce text w ik inn it
  rw [cryptS_arg hb] at hcr
  have HCR := Lib.hid hcr
  have hd1 : decide (2000 < (tn : Int)) = false := by simp; omega
  have hcase : (((kn : Int) != 16) = true ∧ ((kn : Int) != 32) = true) ∨ ((((kn : Int) != 16) = true ∧ ((kn : Int) != 32) = false) ∧ ((nn : Int) != 12) = true) ∨ (((kn : Int) != 16) = false ∧ ((nn : Int) != 12) = true) := by
    simp only [KeyOk, lk, ln] at hb
    by_cases h1 : kn = 16
    · right; right; simp; omega
    · by_cases h2 : kn = 32
      · right; left; simp; omega
      · left; simp; omega
  clear hcr lk ln ik inn it hb
  rcases hcase with ⟨q1, q2⟩ | ⟨⟨q1, q2⟩, q3⟩ | ⟨q1, q3⟩
  all_goals
    go_enter Try.func5, Try.ntmps5
    go_wp2_with fail
    refine HCR.out.mono ?_
    intro e w1 ho
    obtain ⟨A, c, rfl, hin, b1⟩ := ho.form
    have B1 := Lib.hid b1
    clear hin b1 ho
    go_wp2_with fail
    refine (known5_any _).mono ?_
    rintro e w6 ⟨rfl, b6⟩
    have B6 := Lib.hid (below_tr B1.out b6 B1.out.size)
    clear b6
    go_wp2_with fail
    go_ret
    exact ⟨rfl, B6.out⟩
set_option maxRecDepth 100000 in
set_option maxHeartbeats 4000000 in
theorem back_ok (kA nA tA : Option Addr) (kn kc nc tn tc n : Nat) (cut : Int) (key nonce text : List Nat) (w : World) (hK : KeyOk key) (ik : IsB w kA kn kc key) (inn : IsB w nA 12 nc nonce) (it : IsB w tA tn tc text) (ht : tn ≤ 2000) (hn : n ≤ tn)
    (hcut : (cut ≤ 0 ∧ n = 0) ∨ (0 < cut ∧ cut % ((tn : Int) + 1) = (n : Int))) (hcl : cut ≤ 9223372036854775807) :
    Calls Try.prog 5 #[.slice kA kn kc, .slice nA 12 nc, .slice tA tn tc, .int .i64 cut] w fun e w' => e = .returned (.bool true) ∧ Below w.heap.size w w' := by
  have lt := it.len
  have ln := inn.len
  have tcl := it.1.lenCap
  have hd1 : decide (2000 < (tn : Int)) = false := by simp; omega
  have hcr := fun tA tc text W h1 h2 h3 => crypt_any kA nA tA kn kc 12 nc tn tc key nonce text W h1 h2 h3
  have hcr2 := fun tA tc text W h1 h2 h3 => crypt_any kA nA tA kn kc 12 nc n tc key nonce text W h1 h2 h3
  have s1 := cryptS_ok hK ln (text := text) (by omega)
  have s2 := cryptS_ok hK ln (text := cryptA key nonce text) (by rw [cryptA_len]; omega)
  have s3 := cryptS_ok hK ln (text := text.take n) (by rw [List.length_take]; omega)
  rw [crypt_crypt] at s2
  rw [crypt_take] at s3
  have lo : (cryptA key nonce text).length = tn := by rw [cryptA_len, lt]
  have lo3 : ((cryptA key nonce text).take n).length = n := by rw [List.length_take, lo]; omega
  generalize cryptA key nonce text = out at *
  have hni : (n : Int) ≤ (tn : Int) := by omega
  have hni2 : (n : Int) ≤ (tc : Int) := by omega
  have HCR := Lib.hid hcr
  have HCR2 := Lib.hid hcr2
  have S1 := Lib.hid s1
  have S2 := Lib.hid s2
  have S3 := Lib.hid s3
  have IK := Lib.hid ik
  have IN := Lib.hid inn
  have IT := Lib.hid it
  have LT := Lib.hid lt
  have LO := Lib.hid lo
  have LO3 := Lib.hid lo3
  have HN := Lib.hid hn
  have HT2 := Lib.hid ht
  clear hcr hcr2 s1 s2 s3 ik inn it lt lo lo3 ln hK tcl ht
  go_enter Try.func5, Try.ntmps5
  go_wp2_with fail
  refine (HCR.out _ _ _ _ IK.out IN.out IT.out).mono ?_
  rw [S1.out]
  intro e w1 ho
  obtain ⟨A1, c1, rfl, i1, b1⟩ := ho.form
  rw [LO.out] at i1 ⊢
  have C1 := Lib.hid i1.1.lenCap
  have O1 := Lib.hid i1
  have K1 := Lib.hid (IK.out.ab b1)
  have N1 := Lib.hid (IN.out.ab b1)
  have T1 := Lib.hid (IT.out.ab b1)
  have B1 := Lib.hid b1
  clear i1 b1 ho
  go_wp2_with fail
  refine (HCR.out _ _ _ _ K1.out N1.out O1.out).mono ?_
  rw [S2.out]
  intro e w2 ho
  obtain ⟨A2, c2, rfl, i2, b2⟩ := ho.form
  rw [LT.out] at i2 ⊢
  have O2 := Lib.hid i2
  have O1b := Lib.hid (O1.out.ab b2)
  have K2 := Lib.hid (K1.out.ab b2)
  have N2 := Lib.hid (N1.out.ab b2)
  have T2 := Lib.hid (T1.out.ab b2)
  have B2 := Lib.hid (below_tr B1.out b2 B1.out.size)
  clear i2 b2 ho K1 N1 T1 O1 B1
  have T2n := Lib.hid (T2.out.take HN.out)
  have hc1 : (n : Int) ≤ (c1 : Int) := by have := C1.out; have := HN.out; omega
  rcases hcut with ⟨hc0, rfl⟩ | ⟨hc0, hcm⟩
  · have hd2 : decide (0 < cut) = false := by simp; omega
    clear hc0
    go_wp2_with fail
    refine (HCR2.out _ _ _ _ K2.out N2.out T2n.out).mono ?_
    rw [S3.out]
    intro e w3 ho
    obtain ⟨A3, c3, rfl, i3, b3⟩ := ho.form
    rw [LO3.out] at i3 ⊢
    have Q3 := Lib.hid (str_ab i3.drew)
    have Q1 := Lib.hid (str_ab ((O1b.out.ab b3).take HN.out).drew)
    have Q2 := Lib.hid (str_ab (O2.out.ab b3).drew)
    have Q0 := Lib.hid (str_ab (T2.out.ab b3).drew)
    have B3 := Lib.hid (below_tr B2.out b3 B2.out.size)
    clear i3 b3 ho K2 N2 T2 O1b O2 B2 T2n
    go_wp2_with fail
    refine wp_quiet_tail 32 (AbW w3.drew) (AbW.refl _) (by kernel_rfl) (by kernel_rfl) ?_
    simp only [List.take_succ_cons, List.take_zero, List.drop_succ_cons, List.drop_zero]
    refine quiet_value (v := ?qva0) (by rfl) ?qha0 ?qka0
    case qha0 => (intro w' hw'; have q0 := Q0.out w' hw'; have q1 := Q1.out w' hw'; have q2 := Q2.out w' hw'; have q3 := Q3.out w' hw'; go_simp; rfl)
    simp only [Act.put, List.setIfInBounds_toArray, List.set_cons_zero, List.set_cons_succ]
    refine quiet_value (v := ?qva1) (by rfl) ?qha1 ?qka1
    case qha1 => (intro w' hw'; have q0 := Q0.out w' hw'; have q1 := Q1.out w' hw'; have q2 := Q2.out w' hw'; have q3 := Q3.out w' hw'; go_simp; rfl)
    simp only [Act.put, List.setIfInBounds_toArray, List.set_cons_zero, List.set_cons_succ]
    refine quiet_value (v := ?qva2) (by rfl) ?qha2 ?qka2
    case qha2 => (intro w' hw'; have q0 := Q0.out w' hw'; have q1 := Q1.out w' hw'; have q2 := Q2.out w' hw'; have q3 := Q3.out w' hw'; go_simp; rfl)
    simp only [Act.put, List.setIfInBounds_toArray, List.set_cons_zero, List.set_cons_succ]
    refine quiet_value (v := ?qva3) (by rfl) ?qha3 ?qka3
    case qha3 => (intro w' hw'; have q0 := Q0.out w' hw'; have q1 := Q1.out w' hw'; have q2 := Q2.out w' hw'; have q3 := Q3.out w' hw'; go_simp; rfl)
    simp only [Act.put, List.setIfInBounds_toArray, List.set_cons_zero, List.set_cons_succ]
    refine quiet_value (v := ?qva4) (by rfl) ?qha4 ?qka4
    case qha4 => (intro w' hw'; have q0 := Q0.out w' hw'; have q1 := Q1.out w' hw'; have q2 := Q2.out w' hw'; have q3 := Q3.out w' hw'; go_simp; rfl)
    simp only [Act.put, List.setIfInBounds_toArray, List.set_cons_zero, List.set_cons_succ]
    refine quiet_value (v := ?qva5) (by rfl) ?qha5 ?qka5
    case qha5 => (intro w' hw'; have q0 := Q0.out w' hw'; have q1 := Q1.out w' hw'; have q2 := Q2.out w' hw'; have q3 := Q3.out w' hw'; go_simp; rfl)
    simp only [Act.put, List.setIfInBounds_toArray, List.set_cons_zero, List.set_cons_succ]
    refine quiet_value (v := ?qva6) (by rfl) ?qha6 ?qka6
    case qha6 => (intro w' hw'; have q0 := Q0.out w' hw'; have q1 := Q1.out w' hw'; have q2 := Q2.out w' hw'; have q3 := Q3.out w' hw'; go_simp; rfl)
    simp only [Act.put, List.setIfInBounds_toArray, List.set_cons_zero, List.set_cons_succ]
    refine quiet_value (v := ?qva7) (by rfl) ?qha7 ?qka7
    case qha7 => (intro w' hw'; have q0 := Q0.out w' hw'; have q1 := Q1.out w' hw'; have q2 := Q2.out w' hw'; have q3 := Q3.out w' hw'; go_simp; rfl)
    simp only [Act.put, List.setIfInBounds_toArray, List.set_cons_zero, List.set_cons_succ]
    refine quiet_value (v := ?qva8) (by rfl) ?qha8 ?qka8
    case qha8 => (intro w' hw'; have q0 := Q0.out w' hw'; have q1 := Q1.out w' hw'; have q2 := Q2.out w' hw'; have q3 := Q3.out w' hw'; go_simp; rfl)
    simp only [Act.put, List.setIfInBounds_toArray, List.set_cons_zero, List.set_cons_succ]
    refine quiet_value (v := ?qva9) (by rfl) ?qha9 ?qka9
    case qha9 => (intro w' hw'; have q0 := Q0.out w' hw'; have q1 := Q1.out w' hw'; have q2 := Q2.out w' hw'; have q3 := Q3.out w' hw'; go_simp; rfl)
    simp only [Act.put, List.setIfInBounds_toArray, List.set_cons_zero, List.set_cons_succ]
    refine quiet_value (v := ?qva10) (by rfl) ?qha10 ?qka10
    case qha10 => (intro w' hw'; have q0 := Q0.out w' hw'; have q1 := Q1.out w' hw'; have q2 := Q2.out w' hw'; have q3 := Q3.out w' hw'; go_simp; rfl)
    simp only [Act.put, List.setIfInBounds_toArray, List.set_cons_zero, List.set_cons_succ]
    refine quiet_value (v := ?qva11) (by rfl) ?qha11 ?qka11
    case qha11 => (intro w' hw'; have q0 := Q0.out w' hw'; have q1 := Q1.out w' hw'; have q2 := Q2.out w' hw'; have q3 := Q3.out w' hw'; go_simp; rfl)
    simp only [Act.put, List.setIfInBounds_toArray, List.set_cons_zero, List.set_cons_succ]
    refine quiet_value (v := ?qva12) (by rfl) ?qha12 ?qka12
    case qha12 => (intro w' hw'; have q0 := Q0.out w' hw'; have q1 := Q1.out w' hw'; have q2 := Q2.out w' hw'; have q3 := Q3.out w' hw'; go_simp; rfl)
    simp only [Act.put, List.setIfInBounds_toArray, List.set_cons_zero, List.set_cons_succ]
    refine quiet_value (v := ?qva13) (by rfl) ?qha13 ?qka13
    case qha13 => (intro w' hw'; have q0 := Q0.out w' hw'; have q1 := Q1.out w' hw'; have q2 := Q2.out w' hw'; have q3 := Q3.out w' hw'; go_simp; rfl)
    simp only [Act.put, List.setIfInBounds_toArray, List.set_cons_zero, List.set_cons_succ]
    refine quiet_value (v := ?qva14) (by rfl) ?qha14 ?qka14
    case qha14 => (intro w' hw'; have q0 := Q0.out w' hw'; have q1 := Q1.out w' hw'; have q2 := Q2.out w' hw'; have q3 := Q3.out w' hw'; go_simp; rfl)
    simp only [Act.put, List.setIfInBounds_toArray, List.set_cons_zero, List.set_cons_succ]
    refine quiet_value (v := ?qva15) (by rfl) ?qha15 ?qka15
    case qha15 => (intro w' hw'; have q0 := Q0.out w' hw'; have q1 := Q1.out w' hw'; have q2 := Q2.out w' hw'; have q3 := Q3.out w' hw'; go_simp; rfl)
    simp only [Act.put, List.setIfInBounds_toArray, List.set_cons_zero, List.set_cons_succ]
    refine quiet_value (v := ?qva16) (by rfl) ?qha16 ?qka16
    case qha16 => (intro w' hw'; have q0 := Q0.out w' hw'; have q1 := Q1.out w' hw'; have q2 := Q2.out w' hw'; have q3 := Q3.out w' hw'; go_simp; rfl)
    simp only [Act.put, List.setIfInBounds_toArray, List.set_cons_zero, List.set_cons_succ]
    refine quiet_value (v := ?qva17) (by rfl) ?qha17 ?qka17
    case qha17 => (intro w' hw'; have q0 := Q0.out w' hw'; have q1 := Q1.out w' hw'; have q2 := Q2.out w' hw'; have q3 := Q3.out w' hw'; go_simp; rfl)
    simp only [Act.put, List.setIfInBounds_toArray, List.set_cons_zero, List.set_cons_succ]
    refine quiet_value (v := ?qva18) (by rfl) ?qha18 ?qka18
    case qha18 => (intro w' hw'; have q0 := Q0.out w' hw'; have q1 := Q1.out w' hw'; have q2 := Q2.out w' hw'; have q3 := Q3.out w' hw'; go_simp; rfl)
    simp only [Act.put, List.setIfInBounds_toArray, List.set_cons_zero, List.set_cons_succ]
    refine quiet_value (v := ?qva19) (by rfl) ?qha19 ?qka19
    case qha19 => (intro w' hw'; have q0 := Q0.out w' hw'; have q1 := Q1.out w' hw'; have q2 := Q2.out w' hw'; have q3 := Q3.out w' hw'; go_simp; rfl)
    simp only [Act.put, List.setIfInBounds_toArray, List.set_cons_zero, List.set_cons_succ]
    refine quiet_value (v := ?qva20) (by rfl) ?qha20 ?qka20
    case qha20 => (intro w' hw'; have q0 := Q0.out w' hw'; have q1 := Q1.out w' hw'; have q2 := Q2.out w' hw'; have q3 := Q3.out w' hw'; go_simp; rfl)
    simp only [Act.put, List.setIfInBounds_toArray, List.set_cons_zero, List.set_cons_succ]
    refine quiet_value (v := ?qva21) (by rfl) ?qha21 ?qka21
    case qha21 => (intro w' hw'; have q0 := Q0.out w' hw'; have q1 := Q1.out w' hw'; have q2 := Q2.out w' hw'; have q3 := Q3.out w' hw'; go_simp; rfl)
    simp only [Act.put, List.setIfInBounds_toArray, List.set_cons_zero, List.set_cons_succ]
    refine quiet_value (v := ?qva22) (by rfl) ?qha22 ?qka22
    case qha22 => (intro w' hw'; have q0 := Q0.out w' hw'; have q1 := Q1.out w' hw'; have q2 := Q2.out w' hw'; have q3 := Q3.out w' hw'; go_simp; rfl)
    simp only [Act.put, List.setIfInBounds_toArray, List.set_cons_zero, List.set_cons_succ]
    refine quiet_value (v := ?qva23) (by rfl) ?qha23 ?qka23
    case qha23 => (intro w' hw'; have q0 := Q0.out w' hw'; have q1 := Q1.out w' hw'; have q2 := Q2.out w' hw'; have q3 := Q3.out w' hw'; go_simp; rfl)
    simp only [Act.put, List.setIfInBounds_toArray, List.set_cons_zero, List.set_cons_succ]
    refine quiet_value (v := ?qva24) (by rfl) ?qha24 ?qka24
    case qha24 => (intro w' hw'; have q0 := Q0.out w' hw'; have q1 := Q1.out w' hw'; have q2 := Q2.out w' hw'; have q3 := Q3.out w' hw'; go_simp; rfl)
    simp only [Act.put, List.setIfInBounds_toArray, List.set_cons_zero, List.set_cons_succ]
    refine quiet_value (v := ?qva25) (by rfl) ?qha25 ?qka25
    case qha25 => (intro w' hw'; have q0 := Q0.out w' hw'; have q1 := Q1.out w' hw'; have q2 := Q2.out w' hw'; have q3 := Q3.out w' hw'; go_simp; rfl)
    simp only [Act.put, List.setIfInBounds_toArray, List.set_cons_zero, List.set_cons_succ]
    refine quiet_value (v := ?qva26) (by rfl) ?qha26 ?qka26
    case qha26 => (intro w' hw'; have q0 := Q0.out w' hw'; have q1 := Q1.out w' hw'; have q2 := Q2.out w' hw'; have q3 := Q3.out w' hw'; go_simp; rfl)
    simp only [Act.put, List.setIfInBounds_toArray, List.set_cons_zero, List.set_cons_succ]
    refine quiet_value (v := ?qva27) (by rfl) ?qha27 ?qka27
    case qha27 => (intro w' hw'; have q0 := Q0.out w' hw'; have q1 := Q1.out w' hw'; have q2 := Q2.out w' hw'; have q3 := Q3.out w' hw'; go_simp; rfl)
    simp only [Act.put, List.setIfInBounds_toArray, List.set_cons_zero, List.set_cons_succ]
    refine quiet_value (v := ?qva28) (by rfl) ?qha28 ?qka28
    case qha28 => (intro w' hw'; have q0 := Q0.out w' hw'; have q1 := Q1.out w' hw'; have q2 := Q2.out w' hw'; have q3 := Q3.out w' hw'; go_simp; rfl)
    simp only [Act.put, List.setIfInBounds_toArray, List.set_cons_zero, List.set_cons_succ]
    refine quiet_value (v := ?qva29) (by rfl) ?qha29 ?qka29
    case qha29 => (intro w' hw'; have q0 := Q0.out w' hw'; have q1 := Q1.out w' hw'; have q2 := Q2.out w' hw'; have q3 := Q3.out w' hw'; go_simp; rfl)
    simp only [Act.put, List.setIfInBounds_toArray, List.set_cons_zero, List.set_cons_succ]
    refine quiet_call (v := .bool true) (f := 26) (args := #[]) (by rfl) (fun w' => by go_simp) (fun w' h => known5_ab w' h) ?_
    simp only [Act.put, List.setIfInBounds_toArray, List.set_cons_zero, List.set_cons_succ]
    refine quiet_value (v := ?qva31) (by rfl) ?qha31 ?qka31
    case qha31 => (intro w' hw'; have q0 := Q0.out w' hw'; have q1 := Q1.out w' hw'; have q2 := Q2.out w' hw'; have q3 := Q3.out w' hw'; go_simp; rfl)
    simp only [Act.put, List.setIfInBounds_toArray, List.set_cons_zero, List.set_cons_succ]
    refine wpQuiet_nil ?_
    intro w6 h6
    have B6 : Hid (Below w.heap.size w w6) := Lib.hid (below_tr B3.out.drew h6 B3.out.size)
    clear h6
    go_wp2_with fail
    go_ret
    exact ⟨rfl, B6.out⟩
  · have hd2 : decide (0 < cut) = true := by simp; omega
    have hw1 : IntKind.i64.wrap ((tn : Int) + 1) = (tn : Int) + 1 := IntWalk.i64_in _ (by have := HT2.out; omega)
    have hmt : cut.tmod ((tn : Int) + 1) = (n : Int) := by rw [Int.tmod_eq_emod_of_nonneg (by omega)]; exact hcm
    go_wp2_with fail
    refine (HCR2.out _ _ _ _ K2.out N2.out T2n.out).mono ?_
    rw [S3.out]
    intro e w3 ho
    obtain ⟨A3, c3, rfl, i3, b3⟩ := ho.form
    rw [LO3.out] at i3 ⊢
    have Q3 := Lib.hid (str_ab i3.drew)
    have Q1 := Lib.hid (str_ab ((O1b.out.ab b3).take HN.out).drew)
    have Q2 := Lib.hid (str_ab (O2.out.ab b3).drew)
    have Q0 := Lib.hid (str_ab (T2.out.ab b3).drew)
    have B3 := Lib.hid (below_tr B2.out b3 B2.out.size)
    clear i3 b3 ho K2 N2 T2 O1b O2 B2 T2n
    go_wp2_with fail
    refine wp_quiet_tail 32 (AbW w3.drew) (AbW.refl _) (by kernel_rfl) (by kernel_rfl) ?_
    simp only [List.take_succ_cons, List.take_zero, List.drop_succ_cons, List.drop_zero]
    refine quiet_value (v := ?qvb0) (by rfl) ?qhb0 ?qkb0
    case qhb0 => (intro w' hw'; have q0 := Q0.out w' hw'; have q1 := Q1.out w' hw'; have q2 := Q2.out w' hw'; have q3 := Q3.out w' hw'; go_simp; rfl)
    simp only [Act.put, List.setIfInBounds_toArray, List.set_cons_zero, List.set_cons_succ]
    refine quiet_value (v := ?qvb1) (by rfl) ?qhb1 ?qkb1
    case qhb1 => (intro w' hw'; have q0 := Q0.out w' hw'; have q1 := Q1.out w' hw'; have q2 := Q2.out w' hw'; have q3 := Q3.out w' hw'; go_simp; rfl)
    simp only [Act.put, List.setIfInBounds_toArray, List.set_cons_zero, List.set_cons_succ]
    refine quiet_value (v := ?qvb2) (by rfl) ?qhb2 ?qkb2
    case qhb2 => (intro w' hw'; have q0 := Q0.out w' hw'; have q1 := Q1.out w' hw'; have q2 := Q2.out w' hw'; have q3 := Q3.out w' hw'; go_simp; rfl)
    simp only [Act.put, List.setIfInBounds_toArray, List.set_cons_zero, List.set_cons_succ]
    refine quiet_value (v := ?qvb3) (by rfl) ?qhb3 ?qkb3
    case qhb3 => (intro w' hw'; have q0 := Q0.out w' hw'; have q1 := Q1.out w' hw'; have q2 := Q2.out w' hw'; have q3 := Q3.out w' hw'; go_simp; rfl)
    simp only [Act.put, List.setIfInBounds_toArray, List.set_cons_zero, List.set_cons_succ]
    refine quiet_value (v := ?qvb4) (by rfl) ?qhb4 ?qkb4
    case qhb4 => (intro w' hw'; have q0 := Q0.out w' hw'; have q1 := Q1.out w' hw'; have q2 := Q2.out w' hw'; have q3 := Q3.out w' hw'; go_simp; rfl)
    simp only [Act.put, List.setIfInBounds_toArray, List.set_cons_zero, List.set_cons_succ]
    refine quiet_value (v := ?qvb5) (by rfl) ?qhb5 ?qkb5
    case qhb5 => (intro w' hw'; have q0 := Q0.out w' hw'; have q1 := Q1.out w' hw'; have q2 := Q2.out w' hw'; have q3 := Q3.out w' hw'; go_simp; rfl)
    simp only [Act.put, List.setIfInBounds_toArray, List.set_cons_zero, List.set_cons_succ]
    refine quiet_value (v := ?qvb6) (by rfl) ?qhb6 ?qkb6
    case qhb6 => (intro w' hw'; have q0 := Q0.out w' hw'; have q1 := Q1.out w' hw'; have q2 := Q2.out w' hw'; have q3 := Q3.out w' hw'; go_simp; rfl)
    simp only [Act.put, List.setIfInBounds_toArray, List.set_cons_zero, List.set_cons_succ]
    refine quiet_value (v := ?qvb7) (by rfl) ?qhb7 ?qkb7
    case qhb7 => (intro w' hw'; have q0 := Q0.out w' hw'; have q1 := Q1.out w' hw'; have q2 := Q2.out w' hw'; have q3 := Q3.out w' hw'; go_simp; rfl)
    simp only [Act.put, List.setIfInBounds_toArray, List.set_cons_zero, List.set_cons_succ]
    refine quiet_value (v := ?qvb8) (by rfl) ?qhb8 ?qkb8
    case qhb8 => (intro w' hw'; have q0 := Q0.out w' hw'; have q1 := Q1.out w' hw'; have q2 := Q2.out w' hw'; have q3 := Q3.out w' hw'; go_simp; rfl)
    simp only [Act.put, List.setIfInBounds_toArray, List.set_cons_zero, List.set_cons_succ]
    refine quiet_value (v := ?qvb9) (by rfl) ?qhb9 ?qkb9
    case qhb9 => (intro w' hw'; have q0 := Q0.out w' hw'; have q1 := Q1.out w' hw'; have q2 := Q2.out w' hw'; have q3 := Q3.out w' hw'; go_simp; rfl)
    simp only [Act.put, List.setIfInBounds_toArray, List.set_cons_zero, List.set_cons_succ]
    refine quiet_value (v := ?qvb10) (by rfl) ?qhb10 ?qkb10
    case qhb10 => (intro w' hw'; have q0 := Q0.out w' hw'; have q1 := Q1.out w' hw'; have q2 := Q2.out w' hw'; have q3 := Q3.out w' hw'; go_simp; rfl)
    simp only [Act.put, List.setIfInBounds_toArray, List.set_cons_zero, List.set_cons_succ]
    refine quiet_value (v := ?qvb11) (by rfl) ?qhb11 ?qkb11
    case qhb11 => (intro w' hw'; have q0 := Q0.out w' hw'; have q1 := Q1.out w' hw'; have q2 := Q2.out w' hw'; have q3 := Q3.out w' hw'; go_simp; rfl)
    simp only [Act.put, List.setIfInBounds_toArray, List.set_cons_zero, List.set_cons_succ]
    refine quiet_value (v := ?qvb12) (by rfl) ?qhb12 ?qkb12
    case qhb12 => (intro w' hw'; have q0 := Q0.out w' hw'; have q1 := Q1.out w' hw'; have q2 := Q2.out w' hw'; have q3 := Q3.out w' hw'; go_simp; rfl)
    simp only [Act.put, List.setIfInBounds_toArray, List.set_cons_zero, List.set_cons_succ]
    refine quiet_value (v := ?qvb13) (by rfl) ?qhb13 ?qkb13
    case qhb13 => (intro w' hw'; have q0 := Q0.out w' hw'; have q1 := Q1.out w' hw'; have q2 := Q2.out w' hw'; have q3 := Q3.out w' hw'; go_simp; rfl)
    simp only [Act.put, List.setIfInBounds_toArray, List.set_cons_zero, List.set_cons_succ]
    refine quiet_value (v := ?qvb14) (by rfl) ?qhb14 ?qkb14
    case qhb14 => (intro w' hw'; have q0 := Q0.out w' hw'; have q1 := Q1.out w' hw'; have q2 := Q2.out w' hw'; have q3 := Q3.out w' hw'; go_simp; rfl)
    simp only [Act.put, List.setIfInBounds_toArray, List.set_cons_zero, List.set_cons_succ]
    refine quiet_value (v := ?qvb15) (by rfl) ?qhb15 ?qkb15
    case qhb15 => (intro w' hw'; have q0 := Q0.out w' hw'; have q1 := Q1.out w' hw'; have q2 := Q2.out w' hw'; have q3 := Q3.out w' hw'; go_simp; rfl)
    simp only [Act.put, List.setIfInBounds_toArray, List.set_cons_zero, List.set_cons_succ]
    refine quiet_value (v := ?qvb16) (by rfl) ?qhb16 ?qkb16
    case qhb16 => (intro w' hw'; have q0 := Q0.out w' hw'; have q1 := Q1.out w' hw'; have q2 := Q2.out w' hw'; have q3 := Q3.out w' hw'; go_simp; rfl)
    simp only [Act.put, List.setIfInBounds_toArray, List.set_cons_zero, List.set_cons_succ]
    refine quiet_value (v := ?qvb17) (by rfl) ?qhb17 ?qkb17
    case qhb17 => (intro w' hw'; have q0 := Q0.out w' hw'; have q1 := Q1.out w' hw'; have q2 := Q2.out w' hw'; have q3 := Q3.out w' hw'; go_simp; rfl)
    simp only [Act.put, List.setIfInBounds_toArray, List.set_cons_zero, List.set_cons_succ]
    refine quiet_value (v := ?qvb18) (by rfl) ?qhb18 ?qkb18
    case qhb18 => (intro w' hw'; have q0 := Q0.out w' hw'; have q1 := Q1.out w' hw'; have q2 := Q2.out w' hw'; have q3 := Q3.out w' hw'; go_simp; rfl)
    simp only [Act.put, List.setIfInBounds_toArray, List.set_cons_zero, List.set_cons_succ]
    refine quiet_value (v := ?qvb19) (by rfl) ?qhb19 ?qkb19
    case qhb19 => (intro w' hw'; have q0 := Q0.out w' hw'; have q1 := Q1.out w' hw'; have q2 := Q2.out w' hw'; have q3 := Q3.out w' hw'; go_simp; rfl)
    simp only [Act.put, List.setIfInBounds_toArray, List.set_cons_zero, List.set_cons_succ]
    refine quiet_value (v := ?qvb20) (by rfl) ?qhb20 ?qkb20
    case qhb20 => (intro w' hw'; have q0 := Q0.out w' hw'; have q1 := Q1.out w' hw'; have q2 := Q2.out w' hw'; have q3 := Q3.out w' hw'; go_simp; rfl)
    simp only [Act.put, List.setIfInBounds_toArray, List.set_cons_zero, List.set_cons_succ]
    refine quiet_value (v := ?qvb21) (by rfl) ?qhb21 ?qkb21
    case qhb21 => (intro w' hw'; have q0 := Q0.out w' hw'; have q1 := Q1.out w' hw'; have q2 := Q2.out w' hw'; have q3 := Q3.out w' hw'; go_simp; rfl)
    simp only [Act.put, List.setIfInBounds_toArray, List.set_cons_zero, List.set_cons_succ]
    refine quiet_value (v := ?qvb22) (by rfl) ?qhb22 ?qkb22
    case qhb22 => (intro w' hw'; have q0 := Q0.out w' hw'; have q1 := Q1.out w' hw'; have q2 := Q2.out w' hw'; have q3 := Q3.out w' hw'; go_simp; rfl)
    simp only [Act.put, List.setIfInBounds_toArray, List.set_cons_zero, List.set_cons_succ]
    refine quiet_value (v := ?qvb23) (by rfl) ?qhb23 ?qkb23
    case qhb23 => (intro w' hw'; have q0 := Q0.out w' hw'; have q1 := Q1.out w' hw'; have q2 := Q2.out w' hw'; have q3 := Q3.out w' hw'; go_simp; rfl)
    simp only [Act.put, List.setIfInBounds_toArray, List.set_cons_zero, List.set_cons_succ]
    refine quiet_value (v := ?qvb24) (by rfl) ?qhb24 ?qkb24
    case qhb24 => (intro w' hw'; have q0 := Q0.out w' hw'; have q1 := Q1.out w' hw'; have q2 := Q2.out w' hw'; have q3 := Q3.out w' hw'; go_simp; rfl)
    simp only [Act.put, List.setIfInBounds_toArray, List.set_cons_zero, List.set_cons_succ]
    refine quiet_value (v := ?qvb25) (by rfl) ?qhb25 ?qkb25
    case qhb25 => (intro w' hw'; have q0 := Q0.out w' hw'; have q1 := Q1.out w' hw'; have q2 := Q2.out w' hw'; have q3 := Q3.out w' hw'; go_simp; rfl)
    simp only [Act.put, List.setIfInBounds_toArray, List.set_cons_zero, List.set_cons_succ]
    refine quiet_value (v := ?qvb26) (by rfl) ?qhb26 ?qkb26
    case qhb26 => (intro w' hw'; have q0 := Q0.out w' hw'; have q1 := Q1.out w' hw'; have q2 := Q2.out w' hw'; have q3 := Q3.out w' hw'; go_simp; rfl)
    simp only [Act.put, List.setIfInBounds_toArray, List.set_cons_zero, List.set_cons_succ]
    refine quiet_value (v := ?qvb27) (by rfl) ?qhb27 ?qkb27
    case qhb27 => (intro w' hw'; have q0 := Q0.out w' hw'; have q1 := Q1.out w' hw'; have q2 := Q2.out w' hw'; have q3 := Q3.out w' hw'; go_simp; rfl)
    simp only [Act.put, List.setIfInBounds_toArray, List.set_cons_zero, List.set_cons_succ]
    refine quiet_value (v := ?qvb28) (by rfl) ?qhb28 ?qkb28
    case qhb28 => (intro w' hw'; have q0 := Q0.out w' hw'; have q1 := Q1.out w' hw'; have q2 := Q2.out w' hw'; have q3 := Q3.out w' hw'; go_simp; rfl)
    simp only [Act.put, List.setIfInBounds_toArray, List.set_cons_zero, List.set_cons_succ]
    refine quiet_value (v := ?qvb29) (by rfl) ?qhb29 ?qkb29
    case qhb29 => (intro w' hw'; have q0 := Q0.out w' hw'; have q1 := Q1.out w' hw'; have q2 := Q2.out w' hw'; have q3 := Q3.out w' hw'; go_simp; rfl)
    simp only [Act.put, List.setIfInBounds_toArray, List.set_cons_zero, List.set_cons_succ]
    refine quiet_call (v := .bool true) (f := 26) (args := #[]) (by rfl) (fun w' => by go_simp) (fun w' h => known5_ab w' h) ?_
    simp only [Act.put, List.setIfInBounds_toArray, List.set_cons_zero, List.set_cons_succ]
    refine quiet_value (v := ?qvb31) (by rfl) ?qhb31 ?qkb31
    case qhb31 => (intro w' hw'; have q0 := Q0.out w' hw'; have q1 := Q1.out w' hw'; have q2 := Q2.out w' hw'; have q3 := Q3.out w' hw'; go_simp; rfl)
    simp only [Act.put, List.setIfInBounds_toArray, List.set_cons_zero, List.set_cons_succ]
    refine wpQuiet_nil ?_
    intro w6 h6
    have B6 : Hid (Below w.heap.size w w6) := Lib.hid (below_tr B3.out.drew h6 B3.out.size)
    clear h6
    go_wp2_with fail
    go_ret
    exact ⟨rfl, B6.out⟩
theorem back_any (kA nA tA : Option Addr) (kn kc nn nc tn tc : Nat) (cut : Int) (key nonce text : List Nat) (w : World) (ik : IsB w kA kn kc key) (inn : IsB w nA nn nc nonce) (it : IsB w tA tn tc text) (hcl : cut ≤ 9223372036854775807) :
    Calls Try.prog 5 #[.slice kA kn kc, .slice nA nn nc, .slice tA tn tc, .int .i64 cut] w fun e w' => e = .returned (.bool true) ∧ Below w.heap.size w w' := by
  rcases Nat.lt_or_ge 2000 tn with ht | ht
  · have hd1 : decide (2000 < (tn : Int)) = true := by simp; omega
    clear ht ik inn it
    go_enter Try.func5, Try.ntmps5
    go_wp2_with fail
    refine (known5_any _).mono ?_
    rintro e w6 ⟨rfl, b6⟩
    have B6 := Lib.hid b6
    clear b6
    go_wp2_with fail
    go_ret
    exact ⟨rfl, B6.out⟩
  · by_cases hb : KeyOk key ∧ nonce.length = 12
    · obtain ⟨hK, hn⟩ := hb
      have : nn = 12 := by rw [← inn.len]; exact hn
      subst this
      by_cases hc : 0 < cut
      · obtain ⟨m, hm⟩ : ∃ m : Nat, cut % ((tn : Int) + 1) = (m : Int) := ⟨(cut % ((tn : Int) + 1)).toNat, by have := Int.emod_nonneg cut (show (tn : Int) + 1 ≠ 0 by omega); omega⟩
        have hlt := Int.emod_lt_of_pos cut (show 0 < (tn : Int) + 1 by omega)
        exact back_ok kA nA tA kn kc nc tn tc m cut key nonce text w hK ik inn it ht (by omega) (.inr ⟨hc, hm⟩) hcl
      · exact back_ok kA nA tA kn kc nc tn tc 0 cut key nonce text w hK ik inn it ht (by omega) (.inl ⟨by omega, rfl⟩) hcl
    · exact back_bad kA nA tA kn kc nn nc tn tc cut key nonce text w ik inn it ht hb
theorem back_walk (kA : Option Addr) (kn kc : Nat) (zk : List Int) (nA : Option Addr) (nn nc : Nat) (zn : List Int) (tA : Option Addr) (tn tc : Nat) (zt : List Int) (cut : Int) (w : World) (hk : IsRow .u8 w kA kn kc zk) (_sk : kc * 1 ≤ 140737488351232) (hn : IsRow .u8 w nA nn nc zn) (_sn : nc * 1 ≤ 140737488351232) (ht : IsRow .u8 w tA tn tc zt) (_st : tc * 1 ≤ 140737488351232) (hc : (Lit.int .i64 cut).wf = true) :
    Calls Try.prog 5 #[.slice kA kn kc, .slice nA nn nc, .slice tA tn tc, .int .i64 cut] w fun e w' => e = .returned (.bool true) ∧ Below w.heap.size w w' := by
  obtain ⟨key, rfl, bk⟩ := byt_of_row hk
  obtain ⟨nonce, rfl, bn⟩ := byt_of_row hn
  obtain ⟨text, rfl, bt⟩ := byt_of_row ht
  simp only [Lit.wf, Bool.and_eq_true, decide_eq_true_eq] at hc
  exact back_any kA nA tA kn kc nn nc tn tc cut key nonce text w ⟨hk, bk⟩ ⟨hn, bn⟩ ⟨ht, bt⟩ hc.2
end Go.Proofs.Ytpofndciepoooaa
