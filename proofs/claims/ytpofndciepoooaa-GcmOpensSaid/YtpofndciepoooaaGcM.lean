/-
  GcmSeals, GcmOpens: the walks.
-/
import Derived.Test.YtpofndciepoooaaGcL
namespace Go.Proofs.Ytpofndciepoooaa
open Go.RowKit
set_option linter.unusedVariables false

set_option maxRecDepth 100000 in
set_option maxHeartbeats 4000000 in
theorem gseals_any (kA nA aA tA : Option Addr) (kn kc nn nc an ac tn tc : Nat) (key nonce aad text : List Nat) (w : World) (ik : IsB w kA kn kc key) (inn : IsB w nA nn nc nonce) (ia : IsB w aA an ac aad) (it : IsB w tA tn tc text) (hkc : kc ≤ 140737488351232) (hnc : nc ≤ 140737488351232) (hac : ac ≤ 140737488351232) (htc : tc ≤ 140737488351232) :
    Calls Try.prog 7 #[.slice kA kn kc, .slice nA nn nc, .slice aA an ac, .slice tA tn tc] w fun e w' => e = .returned (.bool true) ∧ Below w.heap.size w w' := by
  have ck := ik.1.lenCap
  have cn := inn.1.lenCap
  have ca := ia.1.lenCap
  have ct := it.1.lenCap
  have hsg := fun A1 A2 A3 A4 c1 c2 c3 c4 W h1 h2 h3 h4 => gseal_any A1 A2 A3 A4 kn c1 nn c2 an c3 tn c4 key nonce aad text W h1 h2 h3 h4
  have hsr := fun W h1 h2 h3 h4 => rseal_any kA nA aA tA kn kc nn nc an ac tn tc key nonce aad text W h1 h2 h3 h4
  generalize (sealS key nonce aad text).1 = out at *
  generalize (sealS key nonce aad text).2 = err at *
  have HSG := Lib.hid hsg
  have HSR := Lib.hid hsr
  have HKC := Lib.hid (fun W h => copy_isB kA kn kc key W h (by omega))
  have HNC := Lib.hid (fun W h => copy_isB nA nn nc nonce W h (by omega))
  have HAC := Lib.hid (fun W h => copy_isB aA an ac aad W h (by omega))
  have HTC := Lib.hid (fun W h => copy_isB tA tn tc text W h (by omega))
  have IK := Lib.hid ik
  have IN := Lib.hid inn
  have IA := Lib.hid ia
  have IT := Lib.hid it
  have F1 := Lib.hid (fun W => few6_any aA an ac W)
  have F2 := Lib.hid (fun W => few6_any tA tn tc W)
  clear hsg hsr ik inn ia it hkc hnc hac htc ck cn ca ct
  generalize decide (an ≤ 400 ∨ 65552 < an) = b1 at *
  generalize decide (tn ≤ 400 ∨ 65552 < tn) = b2 at *
  cases b1
  · go_enter Try.func7, Try.ntmps7
    go_wp2_with fail
    refine (F1.out _).mono ?_
    rintro e w' ⟨rfl, rfl⟩
    go_wp2_with fail
    refine (known6_any _).mono ?_
    rintro e w' ⟨rfl, hb⟩
    have HB := Lib.hid hb
    clear hb
    go_wp2_with fail
    go_ret
    exact ⟨rfl, HB.out⟩
  · cases b2
    · go_enter Try.func7, Try.ntmps7
      go_wp2_with fail
      refine (F1.out _).mono ?_
      rintro e w' ⟨rfl, rfl⟩
      go_wp2_with fail
      refine (F2.out _).mono ?_
      rintro e w' ⟨rfl, rfl⟩
      go_wp2_with fail
      refine (known6_any _).mono ?_
      rintro e w' ⟨rfl, hb⟩
      have HB := Lib.hid hb
      clear hb
      go_wp2_with fail
      go_ret
      exact ⟨rfl, HB.out⟩
    · go_enter Try.func7, Try.ntmps7
      go_wp2_with fail
      refine (F1.out _).mono ?_
      rintro e w' ⟨rfl, rfl⟩
      go_wp2_with fail
      refine (F2.out _).mono ?_
      rintro e w' ⟨rfl, rfl⟩
      go_wp2_with fail
      refine (HKC.out _ IK.out).mono ?_
      rintro e w1 ⟨rfl, k1, b1⟩
      have K1 := Lib.hid k1
      have B1 := Lib.hid b1
      clear k1 b1
      go_wp2_with fail
      refine (HNC.out _ (IN.out.ab B1.out)).mono ?_
      rintro e w2 ⟨rfl, k2, b2⟩
      have N2 := Lib.hid k2
      have K2 := Lib.hid (K1.out.ab b2)
      have B2 := Lib.hid (below_tr B1.out b2 B1.out.size)
      generalize w1.heap.size = g1 at *
      clear k2 b2 K1 B1
      go_wp2_with fail
      refine (HAC.out _ (IA.out.ab B2.out)).mono ?_
      rintro e w3 ⟨rfl, k3, b3⟩
      have A3 := Lib.hid k3
      have K3 := Lib.hid (K2.out.ab b3)
      have N3 := Lib.hid (N2.out.ab b3)
      have B3 := Lib.hid (below_tr B2.out b3 B2.out.size)
      generalize w2.heap.size = g2 at *
      clear k3 b3 K2 N2 B2
      go_wp2_with fail
      refine (HTC.out _ (IT.out.ab B3.out)).mono ?_
      rintro e w4 ⟨rfl, k4, b4⟩
      have T4 := Lib.hid k4
      have K4 := Lib.hid (K3.out.ab b4)
      have N4 := Lib.hid (N3.out.ab b4)
      have A4 := Lib.hid (A3.out.ab b4)
      have B4 := Lib.hid (below_tr B3.out b4 B3.out.size)
      generalize w3.heap.size = g3 at *
      clear k4 b4 K3 N3 A3 B3 HKC HNC HAC HTC
      go_wp2_with fail
      refine (HSG.out _ _ _ _ _ _ _ _ _ K4.out N4.out A4.out T4.out).mono ?_
      intro e w5 ho
      obtain ⟨A5, c5, rfl, hin, b5⟩ := ho.form
      have O5 := Lib.hid hin
      have K5 := Lib.hid (K4.out.ab b5)
      have N5 := Lib.hid (N4.out.ab b5)
      have A5' := Lib.hid (A4.out.ab b5)
      have T5 := Lib.hid (T4.out.ab b5)
      have B5 := Lib.hid (below_tr B4.out b5 B4.out.size)
      clear hin b5 ho K4 N4 A4 T4 B4 HSG
      go_wp2_with fail
      refine (HSR.out _ (IK.out.ab B5.out) (IN.out.ab B5.out) (IA.out.ab B5.out) (IT.out.ab B5.out)).mono ?_
      intro e w6 ho
      obtain ⟨A6, c6, rfl, hin, b6⟩ := ho.form
      have P6 := Lib.hid hin
      have O6 := Lib.hid (O5.out.ab b6)
      have K6 := Lib.hid (K5.out.ab b6)
      have N6 := Lib.hid (N5.out.ab b6)
      have A6' := Lib.hid (A5'.out.ab b6)
      have T6 := Lib.hid (T5.out.ab b6)
      have B6 := Lib.hid (below_tr B5.out b6 B5.out.size)
      clear hin b6 ho K5 N5 A5' T5 B5 O5 HSR
      go_wp2_with fail
      refine (same_yes _ _ _ _ _ _ key key _ K6.out (IK.out.ab B6.out) rfl).mono ?_
      rintro e w' ⟨rfl, rfl⟩
      go_wp2_with fail
      refine (same_yes _ _ _ _ _ _ nonce nonce _ N6.out (IN.out.ab B6.out) rfl).mono ?_
      rintro e w' ⟨rfl, rfl⟩
      go_wp2_with fail
      refine (same_yes _ _ _ _ _ _ aad aad _ A6'.out (IA.out.ab B6.out) rfl).mono ?_
      rintro e w' ⟨rfl, rfl⟩
      go_wp2_with fail
      refine (same_yes _ _ _ _ _ _ text text _ T6.out (IT.out.ab B6.out) rfl).mono ?_
      rintro e w' ⟨rfl, rfl⟩
      go_wp2_with fail
      refine (same_yes _ _ _ _ _ _ out out _ O6.out P6.out rfl).mono ?_
      rintro e w' ⟨rfl, rfl⟩
      go_wp2_with fail
      refine (known6_any _).mono ?_
      rintro e w7 ⟨rfl, b7⟩
      have B7 := Lib.hid (below_tr B6.out b7 B6.out.size)
      clear b7
      go_wp2_with fail
      go_ret
      exact ⟨rfl, B7.out⟩
theorem gseals_walk (kA : Option Addr) (kn kc : Nat) (zk : List Int) (nA : Option Addr) (nn nc : Nat) (zn : List Int) (aA : Option Addr) (an ac : Nat) (za : List Int) (tA : Option Addr) (tn tc : Nat) (zt : List Int) (w : World) (hk : IsRow .u8 w kA kn kc zk) (sk : kc * 1 ≤ 140737488351232) (hn : IsRow .u8 w nA nn nc zn) (sn : nc * 1 ≤ 140737488351232) (ha : IsRow .u8 w aA an ac za) (sa : ac * 1 ≤ 140737488351232) (ht : IsRow .u8 w tA tn tc zt) (st : tc * 1 ≤ 140737488351232) :
    Calls Try.prog 7 #[.slice kA kn kc, .slice nA nn nc, .slice aA an ac, .slice tA tn tc] w fun e w' => e = .returned (.bool true) ∧ Below w.heap.size w w' := by
  obtain ⟨key, rfl, bk⟩ := byt_of_row hk
  obtain ⟨nonce, rfl, bn⟩ := byt_of_row hn
  obtain ⟨aad, rfl, ba⟩ := byt_of_row ha
  obtain ⟨text, rfl, bt⟩ := byt_of_row ht
  exact gseals_any kA nA aA tA kn kc nn nc an ac tn tc key nonce aad text w ⟨hk, bk⟩ ⟨hn, bn⟩ ⟨ha, ba⟩ ⟨ht, bt⟩ (by omega) (by omega) (by omega) (by omega)
set_option maxRecDepth 100000 in
set_option maxHeartbeats 4000000 in
theorem gopens6_any (kA nA aA tA : Option Addr) (kn kc nn nc an ac tn tc : Nat) (key nonce aad text : List Nat) (w : World) (ik : IsB w kA kn kc key) (inn : IsB w nA nn nc nonce) (ia : IsB w aA an ac aad) (it : IsB w tA tn tc text) (hkc : kc ≤ 140737488351232) (hnc : nc ≤ 140737488351232) (hac : ac ≤ 140737488351232) (htc : tc ≤ 140737488351232) :
    Calls Try.prog 8 #[.slice kA kn kc, .slice nA nn nc, .slice aA an ac, .slice tA tn tc] w fun e w' => e = .returned (.bool true) ∧ Below w.heap.size w w' := by
  have ck := ik.1.lenCap
  have cn := inn.1.lenCap
  have ca := ia.1.lenCap
  have ct := it.1.lenCap
  have hsg := fun A4 c4 W h1 h2 h3 h4 => gopen_any kA nA aA A4 kn kc nn nc an ac tn c4 key nonce aad text W h1 h2 h3 h4
  have hsr := fun W h1 h2 h3 h4 => ropen_any kA nA aA tA kn kc nn nc an ac tn tc key nonce aad text W h1 h2 h3 h4
  generalize (openS key nonce aad text).1 = out at *
  generalize (openS key nonce aad text).2 = err at *
  have HSG := Lib.hid hsg
  have HSR := Lib.hid hsr
  have HTC := Lib.hid (fun W h => copy_isB tA tn tc text W h (by omega))
  have IK := Lib.hid ik
  have IN := Lib.hid inn
  have IA := Lib.hid ia
  have IT := Lib.hid it
  have F1 := Lib.hid (fun W => few6_any aA an ac W)
  have F2 := Lib.hid (fun W => few6_any tA tn tc W)
  clear hsg hsr ik inn ia it hkc hnc hac htc ck cn ca ct
  generalize decide (an ≤ 400 ∨ 65552 < an) = b1 at *
  generalize decide (tn ≤ 400 ∨ 65552 < tn) = b2 at *
  cases b1
  · go_enter Try.func8, Try.ntmps8
    go_wp2_with fail
    refine (F1.out _).mono ?_
    rintro e w' ⟨rfl, rfl⟩
    go_wp2_with fail
    refine (known6_any _).mono ?_
    rintro e w' ⟨rfl, hb⟩
    have HB := Lib.hid hb
    clear hb
    go_wp2_with fail
    go_ret
    exact ⟨rfl, HB.out⟩
  · cases b2
    · go_enter Try.func8, Try.ntmps8
      go_wp2_with fail
      refine (F1.out _).mono ?_
      rintro e w' ⟨rfl, rfl⟩
      go_wp2_with fail
      refine (F2.out _).mono ?_
      rintro e w' ⟨rfl, rfl⟩
      go_wp2_with fail
      refine (known6_any _).mono ?_
      rintro e w' ⟨rfl, hb⟩
      have HB := Lib.hid hb
      clear hb
      go_wp2_with fail
      go_ret
      exact ⟨rfl, HB.out⟩
    · go_enter Try.func8, Try.ntmps8
      go_wp2_with fail
      refine (F1.out _).mono ?_
      rintro e w' ⟨rfl, rfl⟩
      go_wp2_with fail
      refine (F2.out _).mono ?_
      rintro e w' ⟨rfl, rfl⟩
      go_wp2_with fail
      refine (HTC.out _ IT.out).mono ?_
      rintro e w4 ⟨rfl, k4, b4⟩
      have T4 := Lib.hid k4
      have B4 := Lib.hid b4
      clear k4 b4 HTC
      go_wp2_with fail
      refine (HSG.out _ _ _ (IK.out.ab B4.out) (IN.out.ab B4.out) (IA.out.ab B4.out) T4.out).mono ?_
      intro e w5 ho
      obtain ⟨A5, c5, rfl, hin, b5⟩ := ho.form
      have O5 := Lib.hid hin
      have T5 := Lib.hid (T4.out.ab b5)
      have B5 := Lib.hid (below_tr B4.out b5 B4.out.size)
      clear hin b5 ho T4 B4 HSG
      go_wp2_with fail
      refine (HSR.out _ (IK.out.ab B5.out) (IN.out.ab B5.out) (IA.out.ab B5.out) (IT.out.ab B5.out)).mono ?_
      intro e w6 ho
      obtain ⟨A6, c6, rfl, hin, b6⟩ := ho.form
      have P6 := Lib.hid hin
      have O6 := Lib.hid (O5.out.ab b6)
      have T6 := Lib.hid (T5.out.ab b6)
      have B6 := Lib.hid (below_tr B5.out b6 B5.out.size)
      clear hin b6 ho T5 B5 O5 HSR
      go_wp2_with fail
      refine (same_yes _ _ _ _ _ _ text text _ T6.out (IT.out.ab B6.out) rfl).mono ?_
      rintro e w' ⟨rfl, rfl⟩
      go_wp2_with fail
      refine (same_yes _ _ _ _ _ _ out out _ O6.out P6.out rfl).mono ?_
      rintro e w' ⟨rfl, rfl⟩
      go_wp2_with fail
      refine (known6_any _).mono ?_
      rintro e w7 ⟨rfl, b7⟩
      have B7 := Lib.hid (below_tr B6.out b7 B6.out.size)
      clear b7
      go_wp2_with fail
      go_ret
      exact ⟨rfl, B7.out⟩
theorem gopens_walk (kA : Option Addr) (kn kc : Nat) (zk : List Int) (nA : Option Addr) (nn nc : Nat) (zn : List Int) (aA : Option Addr) (an ac : Nat) (za : List Int) (tA : Option Addr) (tn tc : Nat) (zt : List Int) (w : World) (hk : IsRow .u8 w kA kn kc zk) (sk : kc * 1 ≤ 140737488351232) (hn : IsRow .u8 w nA nn nc zn) (sn : nc * 1 ≤ 140737488351232) (ha : IsRow .u8 w aA an ac za) (sa : ac * 1 ≤ 140737488351232) (ht : IsRow .u8 w tA tn tc zt) (st : tc * 1 ≤ 140737488351232) :
    Calls Try.prog 8 #[.slice kA kn kc, .slice nA nn nc, .slice aA an ac, .slice tA tn tc] w fun e w' => e = .returned (.bool true) ∧ Below w.heap.size w w' := by
  obtain ⟨key, rfl, bk⟩ := byt_of_row hk
  obtain ⟨nonce, rfl, bn⟩ := byt_of_row hn
  obtain ⟨aad, rfl, ba⟩ := byt_of_row ha
  obtain ⟨text, rfl, bt⟩ := byt_of_row ht
  exact gopens6_any kA nA aA tA kn kc nn nc an ac tn tc key nonce aad text w ⟨hk, bk⟩ ⟨hn, bn⟩ ⟨ha, ba⟩ ⟨ht, bt⟩ (by omega) (by omega) (by omega) (by omega)
end Go.Proofs.Ytpofndciepoooaa
