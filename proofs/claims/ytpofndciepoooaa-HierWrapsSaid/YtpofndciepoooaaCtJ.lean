/-
  CtrCrypts: the walk.
-/
import Derived.Test.YtpofndciepoooaaCtI
namespace Go.Proofs.Ytpofndciepoooaa
open Go.RowKit
set_option linter.unusedVariables false

set_option maxRecDepth 100000 in
set_option maxHeartbeats 1000000 in
theorem opens_arg (kA nA tA : Option Addr) (kn kc nn nc tn tc : Nat) (w : World) (h : ¬ ((kn = 16 ∨ kn = 32) ∧ nn = 12)) :
    Calls Try.prog 29 #[.slice kA kn kc, .slice nA nn nc, .slice tA tn tc] w fun e w' => e = .returned (.int .i64 2) ∧ w = w' := by
  by_cases hk : kn = 16 ∨ kn = 32
  · have hn : ((nn : Int) != 12) = true := by simp; omega
    have HK := Lib.hid hk
    clear hk h
    go_enter Try.func29, Try.ntmps29
    go_wp2_with fail
    refine (may_yes kA kn kc _ HK.out).mono ?_
    rintro e w' ⟨rfl, rfl⟩
    go_wp2_with fail
    go_ret
    exact ⟨rfl, rfl⟩
  · have h1 : kn ≠ 16 := fun h => hk (.inl h)
    have h2 : kn ≠ 32 := fun h => hk (.inr h)
    clear hk h
    go_enter Try.func29, Try.ntmps29
    go_wp2_with fail
    refine (may_no kA kn kc _ h1 h2).mono ?_
    rintro e w' ⟨rfl, rfl⟩
    go_wp2_with fail
    go_ret
    exact ⟨rfl, rfl⟩
set_option maxRecDepth 100000 in
set_option maxHeartbeats 1000000 in
theorem opens_in (kA nA tA : Option Addr) (kn kc nc tn tc : Nat) (w : World) (hk : kn = 16 ∨ kn = 32) :
    Calls Try.prog 29 #[.slice kA kn kc, .slice nA 12 nc, .slice tA tn tc] w fun e w' => e = .returned (.int .i64 (if 65536 < tn then 3 else 0)) ∧ w = w' := by
  have HK := Lib.hid hk
  clear hk
  by_cases ht : 65536 < tn
  · have hd : decide (65536 < (tn : Int)) = true := by simp; omega
    rw [if_pos ht]
    clear ht
    go_enter Try.func29, Try.ntmps29
    go_wp2_with fail
    refine (may_yes kA kn kc _ HK.out).mono ?_
    rintro e w' ⟨rfl, rfl⟩
    go_wp2_with fail
    go_ret
    exact ⟨rfl, rfl⟩
  · have hd : decide (65536 < (tn : Int)) = false := by simp; omega
    rw [if_neg ht]
    clear ht
    go_enter Try.func29, Try.ntmps29
    go_wp2_with fail
    refine (may_yes kA kn kc _ HK.out).mono ?_
    rintro e w' ⟨rfl, rfl⟩
    go_wp2_with fail
    go_ret
    exact ⟨rfl, rfl⟩
theorem opens_any (kA nA tA : Option Addr) (kn kc nn nc tn tc : Nat) (key nonce text : List Nat) (w : World) (lk : key.length = kn) (ln : nonce.length = nn) (lt : text.length = tn) :
    Calls Try.prog 29 #[.slice kA kn kc, .slice nA nn nc, .slice tA tn tc] w fun e w' => e = .returned (.int .i64 ((cryptS key nonce text).2 : Nat)) ∧ w = w' := by
  by_cases h : (kn = 16 ∨ kn = 32) ∧ nn = 12
  · obtain ⟨hk, rfl⟩ := h
    have hK : KeyOk key := by unfold KeyOk; omega
    rcases Nat.lt_or_ge 65536 tn with ht | ht
    · have := opens_in kA nA tA kn kc nc tn tc w hk
      rw [if_pos ht] at this
      rw [cryptS_long hK ln (by omega)]
      exact this
    · have := opens_in kA nA tA kn kc nc tn tc w hk
      rw [if_neg (by omega)] at this
      rw [cryptS_ok hK ln (by omega)]
      exact this
  · rw [cryptS_arg (fun hh => h ⟨by rw [← lk]; exact hh.1, by rw [← ln]; exact hh.2⟩)]
    exact opens_arg kA nA tA kn kc nn nc tn tc w h

/-- what Copy has made, as the slice that it is -/
theorem copy_isB (A : Option Addr) (n c : Nat) (l : List Nat) (w : World) (h : IsB w A n c l) (hn : n + 3 ≤ 281474976710656) :
    Calls Try.prog 22 #[.slice A n c] w fun e w' => e = .returned (.slice (some ⟨w.heap.size, 0, none⟩) n (n + 3)) ∧ IsB w' (some ⟨w.heap.size, 0, none⟩) n (n + 3) l ∧ Below w.heap.size w w' := by
  refine (copy_any A n c l w h hn).mono ?_
  rintro e w' ⟨rfl, hbk, hb⟩
  refine ⟨rfl, ?_, hb⟩
  have hl := h.len
  have := hbk.isB (byt_app h.2 (byt_zeros 3)) n (n + 3) (by rw [List.length_append, hl]; omega) (by omega) (by omega)
  rw [List.take_append_of_le_length (by omega), List.take_of_length_le (by omega)] at this
  exact this
theorem same_yes (A B : Option Addr) (n m c d : Nat) (la lb : List Nat) (w : World) (ha : IsB w A n c la) (hb : IsB w B m d lb) (h : la = lb) :
    Calls Try.prog 28 #[.slice A n c, .slice B m d] w fun e w' => e = .returned (.bool true) ∧ w = w' := by
  have := same_any A B n m c d la lb w ha hb
  rw [decide_eq_true h] at this
  exact this

set_option maxRecDepth 100000 in
set_option maxHeartbeats 4000000 in
theorem crypts_any (kA nA tA : Option Addr) (kn kc nn nc tn tc : Nat) (key nonce text : List Nat) (w : World) (ik : IsB w kA kn kc key) (inn : IsB w nA nn nc nonce) (it : IsB w tA tn tc text) (hkc : kc ≤ 140737488351232) (hnc : nc ≤ 140737488351232) (htc : tc ≤ 140737488351232) :
    Calls Try.prog 4 #[.slice kA kn kc, .slice nA nn nc, .slice tA tn tc] w fun e w' => e = .returned (.bool true) ∧ Below w.heap.size w w' := by
  have lk := ik.len
  have ln := inn.len
  have lt := it.len
  have ck := ik.1.lenCap
  have cn := inn.1.lenCap
  have ct := it.1.lenCap
  have hop := fun W => opens_any kA nA tA kn kc nn nc tn tc key nonce text W lk ln lt
  have hcr := fun A B C a b c W h1 h2 h3 => crypt_any A B C kn a nn b tn c key nonce text W h1 h2 h3
  have hsp : ((cryptS key nonce text).2 = 0 ∧ (cryptS key nonce text).1 = cryptA key nonce text ∧ KeyOk key ∧ nonce.length = 12) ∨ ((cryptS key nonce text).2 ≠ 0 ∧ (cryptS key nonce text).1 = []) := by
    by_cases hK : KeyOk key ∧ nonce.length = 12
    · rcases Nat.lt_or_ge 65536 text.length with ht | ht
      · right; rw [cryptS_long hK.1 hK.2 ht]; exact ⟨by decide, rfl⟩
      · left; rw [cryptS_ok hK.1 hK.2 ht]; exact ⟨rfl, rfl, hK.1, hK.2⟩
    · right; rw [cryptS_arg hK]; exact ⟨by decide, rfl⟩
  generalize hS1 : (cryptS key nonce text).1 = out at *
  generalize hS2 : (cryptS key nonce text).2 = err at *
  have KC := copy_isB kA kn kc key w ik (by omega)
  have NC := fun W h => copy_isB nA nn nc nonce W h (by omega)
  have TC := fun W h => copy_isB tA tn tc text W h (by omega)
  have HKC := Lib.hid KC
  have HNC := Lib.hid NC
  have HTC := Lib.hid TC
  have HOP := Lib.hid hop
  have HCR := Lib.hid hcr
  have HSP := Lib.hid hsp
  have IK := Lib.hid ik
  have IN := Lib.hid inn
  have IT := Lib.hid it
  have LN := Lib.hid ln
  have HCT := Lib.hid htc
  have HCL := Lib.hid ct
  clear KC NC TC hop hcr hsp ik inn it lk ln lt hS1 hS2 hkc hnc htc ck cn ct
  by_cases h400 : 400 < tn ∧ tn ≤ 65536
  · have hd1 : decide (400 < (tn : Int)) = true := by simp; omega
    have hd2 : decide ((tn : Int) ≤ 65536) = true := by simp; omega
    clear h400
    go_enter Try.func4, Try.ntmps4
    go_wp2_with fail
    refine (known5_any _).mono ?_
    rintro e w' ⟨rfl, hb⟩
    have HB := Lib.hid hb
    clear hb
    go_wp2_with fail
    go_ret
    exact ⟨rfl, HB.out⟩
  · have key1 : ∀ (P : Prop), (decide (400 < (tn : Int)) = false → P) → (decide (400 < (tn : Int)) = true → decide ((tn : Int) ≤ 65536) = false → P) → P := by
      intro P h1 h2
      by_cases h : 400 < tn
      · exact h2 (by simp; omega) (by simp; omega)
      · exact h1 (by simp; omega)
    refine key1 _ (fun hd1 => ?_) (fun hd1 hd2 => ?_)
    all_goals
      clear key1 h400
      go_enter Try.func4, Try.ntmps4
      go_wp2_with fail
      refine HKC.out.mono ?_
      rintro e w1 ⟨rfl, k1, b1⟩
      have N1 := Lib.hid (IN.out.ab b1)
      have T1 := Lib.hid (IT.out.ab b1)
      have K0 := Lib.hid (IK.out.ab b1)
      have K1 := Lib.hid k1
      have B1 := Lib.hid b1
      clear k1 b1
      go_wp2_with fail
      refine (HNC.out _ N1.out).mono ?_
      rintro e w2 ⟨rfl, n2, b2⟩
      have NN2 := Lib.hid n2
      have K2 := Lib.hid (K1.out.ab b2)
      have K02 := Lib.hid (K0.out.ab b2)
      have N2' := Lib.hid (N1.out.ab b2)
      have T2 := Lib.hid (T1.out.ab b2)
      have B2 := Lib.hid (below_tr B1.out b2 B1.out.size)
      generalize w1.heap.size = g1 at *
      clear n2 b2 K1 K0 N1 T1 B1
      go_wp2_with fail
      refine (HTC.out _ T2.out).mono ?_
      rintro e w3 ⟨rfl, t3, b3⟩
      have TT3 := Lib.hid t3
      have NN3 := Lib.hid (NN2.out.ab b3)
      have K3 := Lib.hid (K2.out.ab b3)
      have K03 := Lib.hid (K02.out.ab b3)
      have N3 := Lib.hid (N2'.out.ab b3)
      have T3 := Lib.hid (T2.out.ab b3)
      have B3 := Lib.hid (below_tr B2.out b3 B2.out.size)
      generalize w2.heap.size = g2 at *
      clear t3 b3 K2 K02 N2' T2 B2 NN2
      go_wp2_with fail
      refine (HCR.out _ _ _ _ _ _ _ K3.out NN3.out TT3.out).mono ?_
      intro e w4 ho
      obtain ⟨A, c, rfl, hin, b4⟩ := ho.form
      have O4 := Lib.hid hin
      have TT4 := Lib.hid (TT3.out.ab b4)
      have NN4 := Lib.hid (NN3.out.ab b4)
      have K4 := Lib.hid (K3.out.ab b4)
      have K04 := Lib.hid (K03.out.ab b4)
      have N4 := Lib.hid (N3.out.ab b4)
      have T4 := Lib.hid (T3.out.ab b4)
      have B4 := Lib.hid (below_tr B3.out b4 B3.out.size)
      clear hin b4 ho K3 K03 N3 T3 B3 NN3 TT3
      go_wp2_with fail
      refine (same_yes _ _ _ _ _ _ key key _ K4.out K04.out rfl).mono ?_
      rintro e w' ⟨rfl, rfl⟩
      go_wp2_with fail
      refine (same_yes _ _ _ _ _ _ nonce nonce _ NN4.out N4.out rfl).mono ?_
      rintro e w' ⟨rfl, rfl⟩
      go_wp2_with fail
      refine (same_yes _ _ _ _ _ _ text text _ TT4.out T4.out rfl).mono ?_
      rintro e w' ⟨rfl, rfl⟩
      go_wp2_with fail
      refine (HOP.out _).mono ?_
      rintro e w' ⟨rfl, rfl⟩
      rcases HSP.out with ⟨rfl, h2, h3, h4⟩ | ⟨h1, h2⟩
      · have hnn : nn = 12 := by rw [← LN.out]; exact h4
        subst hnn
        have htn : tn ≤ 140737488355327 := by have := HCT.out; have := HCL.out; omega
        have HRC := Lib.hid (rCrypt_any kA nA tA kn kc nc tn tc key nonce text w4 h3 K04.out N4.out T4.out htn)
        have OE := Lib.hid h2
        clear h2 h3 h4 htn
        go_wp2_with fail
        refine HRC.out.mono ?_
        rintro e w5 ⟨v, rfl, hv, b5⟩
        obtain ⟨A5, c5, rfl, _, _⟩ := hv.shape
        have V5 := Lib.hid (hv.isB rfl)
        have O5 := Lib.hid (O4.out.ab b5)
        have B5 := Lib.hid (below_tr B4.out b5 B4.out.size)
        clear hv b5
        go_wp2_with fail
        refine (same_yes _ _ _ _ _ _ _ _ _ O5.out V5.out OE.out).mono ?_
        rintro e w' ⟨rfl, rfl⟩
        go_wp2_with fail
        refine (known5_any _).mono ?_
        rintro e w6 ⟨rfl, b6⟩
        have B6 := Lib.hid (below_tr B5.out b6 B5.out.size)
        clear b6
        go_wp2_with fail
        go_ret
        exact ⟨rfl, B6.out⟩
      · subst h2
        have he : ((err : Int) != 0) = true := by simp; omega
        clear h1
        go_wp2_with fail
        refine (known5_any _).mono ?_
        rintro e w6 ⟨rfl, b6⟩
        have B6 := Lib.hid (below_tr B4.out b6 B4.out.size)
        clear b6
        go_wp2_with fail
        go_ret
        exact ⟨rfl, B6.out⟩
theorem crypts_walk (kA : Option Addr) (kn kc : Nat) (zk : List Int) (nA : Option Addr) (nn nc : Nat) (zn : List Int) (tA : Option Addr) (tn tc : Nat) (zt : List Int) (w : World) (hk : IsRow .u8 w kA kn kc zk) (sk : kc * 1 ≤ 140737488351232) (hn : IsRow .u8 w nA nn nc zn) (sn : nc * 1 ≤ 140737488351232) (ht : IsRow .u8 w tA tn tc zt) (st : tc * 1 ≤ 140737488351232) :
    Calls Try.prog 4 #[.slice kA kn kc, .slice nA nn nc, .slice tA tn tc] w fun e w' => e = .returned (.bool true) ∧ Below w.heap.size w w' := by
  obtain ⟨key, rfl, bk⟩ := byt_of_row hk
  obtain ⟨nonce, rfl, bn⟩ := byt_of_row hn
  obtain ⟨text, rfl, bt⟩ := byt_of_row ht
  exact crypts_any kA nA tA kn kc nn nc tn tc key nonce text w ⟨hk, bk⟩ ⟨hn, bn⟩ ⟨ht, bt⟩ (by omega) (by omega) (by omega)
end Go.Proofs.Ytpofndciepoooaa
