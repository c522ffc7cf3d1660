/-
  WALKS: ref22: Number, block, Drawn, Mark, nonce, beside, Wrap, Unwrap.
  WALKS: ref22: Wrap, Unwrap, Same.
  WALKS: law22's lent, kept, known; ref22's Same.
-/
import Derived.Test.YtpofndciepoooaaHiA
namespace Go.Proofs.Ytpofndciepoooaa
open Go.RowKit
set_option linter.unusedVariables false

theorem digB_at (m : Nat) : ∀ n k, k < n → at' (digB m n) k = m / 256 ^ (n - 1 - k) % 256
  | 0, k, h => by omega
  | n + 1, 0, h => by rw [digB_succ]; rfl
  | n + 1, k + 1, h => by
    rw [digB_succ]
    show at' (digB m n) k = _
    rw [digB_at m n k (by omega)]
    congr 2
    congr 1
    omega
theorem pow_256 (i : Nat) : (256 : Nat) ^ i = 2 ^ (8 * i) := by rw [Nat.pow_mul]
set_option maxRecDepth 100000 in
set_option maxHeartbeats 2000000 in
theorem rnum_any (m n : Nat) (w : World) (hm : m < 18446744073709551616) (h8 : n ≤ 8) :
    Calls Try.prog 101 #[.int .u64 (m : Int), .int .i64 (n : Int)] w fun e w' => ∃ v, e = .returned v ∧ OwB w' w.heap.size v (digB m n) ∧ Below w.heap.size w w' := by
  obtain ⟨i0, hi0, hz0, hz1, hz2⟩ := info_parts infoU8
  have hat := digB_at m n
  have hl := digB_len m n
  generalize digB m n = D at *
  have HAT := Lib.hid hat
  have HL := Lib.hid hl
  have HM := Lib.hid hm
  clear hat hl
  go_enter Try.func101, Try.ntmps101
  go_wp2_with fail
  go_loopw [5, 6] (fun v j wr => ∃ i k : Nat, i + k = n ∧ j = .int .i64 ((i : Int) - 1) ∧ OwB wr w.heap.size v (D.take k) ∧ Below w.heap.size w wr) (fun _ j _ => (intOf j + 1).toNat)
  case atStart => exact ⟨n, 0, rfl, rfl, OwB.nil _ _, Below.refl _ _⟩
  case round =>
    obtain ⟨i, k, hik, rfl, ho, kb⟩ := hrel
    cases i with
    | zero =>
      obtain rfl : k = n := by omega
      rw [List.take_of_length_le (by rw [HL.out]; exact Nat.le_refl _)] at ho
      have HO := Lib.hid ho
      have HB := Lib.hid kb
      clear ho kb
      go_wp2_with fail
      go_ret
      exact ⟨_, rfl, HO.out, HB.out⟩
    | succ i =>
      have hkn : k < n := by omega
      have hi8 : (i : Int) < 8 := by omega
      have hi7 : (8 : Int) * (i : Int) < 64 := by omega
      rw [show (((i + 1 : Nat) : Int) - 1) = (i : Int) by omega]
      have t1 : (8 * (i : Int)).toNat = 8 * i := by omega
      have hx : at' D k = m / 2 ^ (8 * i) % 256 := by rw [HAT.out k hkn, ← pow_256, show n - 1 - k = i by omega]
      have hts := take_snoc' (l := D) (p := k) (by rw [HL.out]; exact hkn)
      rw [hx] at hts
      have hdv : (m : Int) / 2 ^ (8 * i) = ((m / 2 ^ (8 * i) : Nat) : Int) := by simp
      have hdl : m / 2 ^ (8 * i) ≤ m := Nat.div_le_self _ _
      generalize m / 2 ^ (8 * i) = dv at *
      have hwr : IntKind.u8.wrap (dv : Int) = ((dv % 256 : Nat) : Int) := by show (dv : Int) % 256 = _; omega
      have hwr2 : IntKind.u64.wrap (dv : Int) = (dv : Int) := wide_u64 dv (by omega)
      have hv : dv % 256 < 256 := Nat.mod_lt _ (by decide)
      generalize dv % 256 = x at *
      have hlen : (D.take k).length = k := by rw [List.length_take, HL.out]; omega
      have HO := Lib.hid ho
      have HBB := Lib.hid kb
      have HS := Lib.hid hts
      have HLE := Lib.hid hlen
      have HV := Lib.hid hv
      have HK := Lib.hid hkn
      have HIK := Lib.hid hik
      clear ho kb hts hlen hv hx hdl hkn hik hm
      go_wp2_with (refine wpList_appB _ rfl (.tmp 13) (.tmp 20) rfl Try.underlying22 hi0 hz0 hz1 hz2 rfl (HO.out.alloc _) rfl (isB_one _ x HV.out) rfl (by rw [HLE.out]; have := HK.out; omega) (by have := HBB.out.size; simp; omega) ?_
                   intro v1 w2 hv1 hb2 hg2 hat2
                   have B2 : Hid (Below w.heap.size w w2) := Lib.hid ((HBB.out.alloc HBB.out.size _).trans hb2)
                   have V2 : Hid (OwB w2 w.heap.size v1 (D.take (k + 1))) := Lib.hid (by rw [HS.out]; exact hv1)
                   clear hv1 hb2 hg2 hat2)
      go_roundw
      case rel => exact ⟨i, k + 1, by have := HIK.out; omega, by go_num, V2.out, B2.out⟩
      case measure => simp [intOf]
set_option maxRecDepth 100000 in
set_option maxHeartbeats 1000000 in
theorem rnonce_any (ten cm : Nat) (w : World) (ht : ten < 4294967296) (hc : cm < 18446744073709551616) :
    Calls Try.prog 82 #[.int .u32 (ten : Int), .int .u64 (cm : Int)] w fun e w' => ∃ v, e = .returned v ∧ OwB w' w.heap.size v (nonH ten cm) ∧ Below w.heap.size w w' := by
  obtain ⟨i0, hi0, hz0, hz1, hz2⟩ := info_parts infoU8
  have zt := wide_u64 ten (by omega)
  have HT := Lib.hid (rnum_any ten 4 w (by omega) (by decide))
  have HC : Hid (∀ W, Calls Try.prog 101 #[.int .u64 (cm : Int), .int .i64 8] W fun e w' => ∃ v, e = .returned v ∧ OwB w' W.heap.size v (digB cm 8) ∧ Below W.heap.size W w') := Lib.hid fun W => rnum_any cm 8 W hc (by decide)
  clear ht hc
  go_enter Try.func82, Try.ntmps82
  go_wp2_with fail
  refine HT.out.mono ?_
  rintro e w1 ⟨v, rfl, hv, hb⟩
  have V1 := Lib.hid hv
  have B1 := Lib.hid hb
  clear hv hb HT
  go_wp2_with fail
  refine (HC.out w1).mono ?_
  rintro e w2 ⟨u, rfl, hu, hb⟩
  obtain ⟨g2, c2, rfl, h2⟩ := hu.cut (digB_len _ _) (by decide)
  have U2 := Lib.hid h2
  have V2 := Lib.hid (V1.out.ab hb)
  have B2 := Lib.hid (below_tr B1.out hb B1.out.size)
  clear hu hb h2 V1 B1 HC
  go_wp2_with (refine wpList_appB _ rfl (.tmp 9) (.tmp 11) rfl Try.underlying22 hi0 hz0 hz1 hz2 rfl V2.out rfl U2.out rfl (by rw [digB_len]; decide) B2.out.size ?_
               intro v3 w3 hv3 hb3 hg3 hat3
               have V3 := Lib.hid hv3
               have B3 := Lib.hid (B2.out.trans hb3)
               clear hv3 hb3 hg3 hat3)
  go_ret
  exact ⟨_, rfl, V3.out, B3.out⟩
set_option maxRecDepth 100000 in
set_option maxHeartbeats 1000000 in
theorem rbeside_any (ten gn : Nat) (w : World) (ht : ten < 4294967296) (hg : gn < 65536) :
    Calls Try.prog 83 #[.int .u32 (ten : Int), .int .u16 (gn : Int)] w fun e w' => ∃ v, e = .returned v ∧ OwB w' w.heap.size v (besH ten gn) ∧ Below w.heap.size w w' := by
  obtain ⟨i0, hi0, hz0, hz1, hz2⟩ := info_parts infoU8
  have zt := wide_u64 ten (by omega)
  have zg := wide_u64 gn (by omega)
  have HT := Lib.hid (rnum_any ten 4 w (by omega) (by decide))
  have HC : Hid (∀ W, Calls Try.prog 101 #[.int .u64 (gn : Int), .int .i64 2] W fun e w' => ∃ v, e = .returned v ∧ OwB w' W.heap.size v (digB gn 2) ∧ Below W.heap.size W w') := Lib.hid fun W => rnum_any gn 2 W (by omega) (by decide)
  clear ht hg
  go_enter Try.func83, Try.ntmps83
  go_wp2_with fail
  refine HT.out.mono ?_
  rintro e w1 ⟨v, rfl, hv, hb⟩
  have V1 := Lib.hid hv
  have B1 := Lib.hid hb
  clear hv hb HT
  go_wp2_with fail
  refine (HC.out w1).mono ?_
  rintro e w2 ⟨u, rfl, hu, hb⟩
  obtain ⟨g2, c2, rfl, h2⟩ := hu.cut (digB_len _ _) (by decide)
  have U2 := Lib.hid h2
  have V2 := Lib.hid (V1.out.ab hb)
  have B2 := Lib.hid (below_tr B1.out hb B1.out.size)
  clear hu hb h2 V1 B1 HC
  go_wp2_with (refine wpList_appB _ rfl (.tmp 9) (.tmp 12) rfl Try.underlying22 hi0 hz0 hz1 hz2 rfl V2.out rfl U2.out rfl (by rw [digB_len]; decide) B2.out.size ?_
               intro v3 w3 hv3 hb3 hg3 hat3
               have V3 := Lib.hid hv3
               have B3 := Lib.hid (B2.out.trans hb3)
               clear hv3 hb3 hg3 hat3)
  go_ret
  exact ⟨_, rfl, V3.out, B3.out⟩
set_option maxRecDepth 100000 in
set_option maxHeartbeats 4000000 in
theorem rblock_any (kA : Option Addr) (kn kc : Nat) (key : List Nat) (p gn i : Nat) (w : World) (hK : KeyOk key) (ik : IsB w kA kn kc key) (hp : p < 256) (hg : gn < 65536) (hi : i < 256) :
    Calls Try.prog 86 #[.slice kA kn kc, .int .u8 (p : Int), .int .u16 (gn : Int), .int .u8 (i : Int)] w fun e w' => ∃ v, e = .returned v ∧ OwB w' w.heap.size v (encA key (blkH p gn i)) ∧ Below w.heap.size w w' := by
  obtain ⟨i0, hi0, hz0, hz1, hz2⟩ := info_parts infoU8
  have lk := ik.len
  have henc : ∀ W (h : IsB W kA kn kc key), Calls Try.prog 72 #[.slice kA kn kc, .agg (bts (blkH p gn i))] W fun e w' => e = .returned (.agg (bts (encA key (blkH p gn i)))) ∧ Below W.heap.size W w' :=
    fun W h => rEnc_any (key.length / 4) (key.length / 4 + 6) kn key (blkH p gn i) kA kc W hK.four rfl (by rw [← lk]; exact hK.len) h (blkH_byt hp hg hi) (blkH_len p gn i)
  have tb := encA_byt hK ik.2 (blkH_byt hp hg hi)
  have tl := encA_len key (blkH p gn i)
  have q1 : (gn : Int) / 2 ^ 8 = ((gn / 256 : Nat) : Int) := by omega
  have q1' : (gn : Int) / 256 = ((gn / 256 : Nat) : Int) := by omega
  have q2 : IntKind.u8.wrap ((gn / 256 : Nat) : Int) = ((gn / 256 : Nat) : Int) := by show ((gn / 256 : Nat) : Int) % 256 = _; omega
  have q3 : IntKind.u8.wrap (gn : Int) = ((gn % 256 : Nat) : Int) := by show (gn : Int) % 256 = _; omega
  have q5 : IntKind.u16.wrap ((gn / 256 : Nat) : Int) = ((gn / 256 : Nat) : Int) := by show ((gn / 256 : Nat) : Int) % 65536 = _; omega
  have K4 : Hid (Bk (w.alloc (.cells #[.int .u8 (p : Int), .int .u8 ((gn / 256 : Nat) : Int), .int .u8 ((gn % 256 : Nat) : Int), .int .u8 0, .int .u8 0, .int .u8 0, .int .u8 0, .int .u8 0, .int .u8 0, .int .u8 0, .int .u8 0, .int .u8 0, .int .u8 0, .int .u8 0, .int .u8 0, .int .u8 (i : Int)] 23)) w.heap.size 23 (blkH p gn i)) := Lib.hid (Bk.newAt _ (blkH p gn i) rfl)
  have B4 : Hid (Below w.heap.size w (w.alloc (.cells #[.int .u8 (p : Int), .int .u8 ((gn / 256 : Nat) : Int), .int .u8 ((gn % 256 : Nat) : Int), .int .u8 0, .int .u8 0, .int .u8 0, .int .u8 0, .int .u8 0, .int .u8 0, .int .u8 0, .int .u8 0, .int .u8 0, .int .u8 0, .int .u8 0, .int .u8 0, .int .u8 (i : Int)] 23))) := Lib.hid ((Below.refl _ _).alloc (Nat.le_refl _) _)
  have I4 : Hid (IsB (w.alloc (.cells #[.int .u8 (p : Int), .int .u8 ((gn / 256 : Nat) : Int), .int .u8 ((gn % 256 : Nat) : Int), .int .u8 0, .int .u8 0, .int .u8 0, .int .u8 0, .int .u8 0, .int .u8 0, .int .u8 0, .int .u8 0, .int .u8 0, .int .u8 0, .int .u8 0, .int .u8 0, .int .u8 (i : Int)] 23)) kA kn kc key) := Lib.hid (ik.ab B4.out)
  have LB := Lib.hid (blkH_len p gn i)
  generalize blkH p gn i = D at *
  generalize encA key D = T at *
  have HEN := Lib.hid henc
  have HTB := Lib.hid tb
  have HTL := Lib.hid tl
  clear henc tb tl ik lk hK
  generalize hDD : ((gn / 256 : Nat) : Int) = DD at *
  generalize hRR : ((gn % 256 : Nat) : Int) = RR at *
  clear hDD hRR
  go_enter Try.func86, Try.ntmps86
  go_wp2_with (refine wpList_loadB (l := D) (o := ⟨some 25, _, _, _, _, _⟩) rfl 23 (.tmp 9) rfl w.heap.size rfl (t := 23) ?_ Try.underlying23 (by rw [LB.out]; exact sz16) ?_
               · exact K4.out)
  refine (HEN.out _ I4.out).mono ?_
  rintro e w3 ⟨rfl, hb3⟩
  have B3 := Lib.hid (below_tr B4.out hb3 B4.out.size)
  clear hb3 K4 I4 B4 HEN
  go_wp2_with ((with_reducible refine wpList_storeN (l := z16) (o := ⟨none, .store _ (.tmp 10) (.tmp 26), _, _, _, _⟩) rfl 23 (.tmp 10) (.tmp 26) ?_ w3.heap.size ?_ T ?_ (t := 23) ?_ ?_ ?_ ?_)
               · rfl
               · rfl
               · rfl
               · exact Bk.newAt _ z16 rfl
               · (rw [HTL.out]; exact sz16)
               · (rw [HTL.out]; rfl)
               intro w4 hw4
               have T6 : Hid (Bk w4 w3.heap.size 23 T) := Lib.hid (by rw [hw4]; exact (show Bk (w3.alloc (.cells (bts z16) 23)) w3.heap.size 23 z16 from Bk.newAt _ z16 rfl).row _)
               have B6 : Hid (Below w.heap.size w w4) := Lib.hid (by rw [hw4]; exact Below.row (B3.out.alloc B3.out.size _) B3.out.size _)
               clear hw4)
  have G0 : Hid (w.heap.size ≤ w3.heap.size) := Lib.hid B3.out.size
  clear B3
  generalize w3.heap.size = g at *
  go_loopw [11, 12] (fun v j wr => ∃ k : Nat, k ≤ 16 ∧ j = .int .i64 k ∧ OwB wr (g + 1) v (T.take k) ∧ Bk wr g 23 T ∧ Below w.heap.size w wr) (fun _ j _ => 16 - (intOf j).toNat)
  case atStart => exact ⟨0, Nat.zero_le _, rfl, OwB.nil _ _, T6.out, B6.out⟩
  case round =>
    obtain ⟨k, hk, rfl, ho, ht, hb⟩ := hrel
    clear T6 B6
    by_cases hlt : k < 16
    · have hki : (k : Int) < 16 := by omega
      have hcl := ht.cell (k := k) (by rw [HTL.out]; exact hlt)
      rw [show T[k]?.getD 0 = at' T k from rfl] at hcl
      have hts := take_snoc' (l := T) (p := k) (by rw [HTL.out]; exact hlt)
      have hv := HTB.out.at' k
      have hlen : (T.take k).length = k := by rw [List.length_take, HTL.out]; omega
      generalize at' T k = x at *
      have HO := Lib.hid ho
      have HT := Lib.hid ht
      have HBB := Lib.hid hb
      have HS := Lib.hid hts
      have HLE := Lib.hid hlen
      have HV := Lib.hid hv
      clear ho ht hb hts hlen hv
      go_wp2_with (refine wpList_appB _ rfl (.tmp 31) (.tmp 35) rfl Try.underlying22 hi0 hz0 hz1 hz2 rfl (HO.out.alloc _) rfl (isB_one _ x HV.out) rfl (by rw [HLE.out]; omega) (by have := HT.out.lt; simp; omega) ?_
                   intro v1 w2 hv1 hb2 hg2 hat2
                   have T2 : Hid (Bk w2 g 23 T) := Lib.hid ((HT.out.alloc _).below hb2 (by omega))
                   have B2 : Hid (Below w.heap.size w w2) := Lib.hid ((HBB.out.alloc HBB.out.size _).trans (hb2.mono (by have := G0.out; omega)))
                   have V2 : Hid (OwB w2 (g + 1) v1 (T.take (k + 1))) := Lib.hid (by rw [HS.out]; exact hv1)
                   clear hv1 hb2 hg2 hat2)
      go_roundw
      case rel => exact ⟨k + 1, by omega, by go_num, V2.out, T2.out, B2.out⟩
      case measure => simp [intOf]; omega
    · obtain rfl : k = 16 := by omega
      rw [List.take_of_length_le (by rw [HTL.out]; exact Nat.le_refl _)] at ho
      have HO := Lib.hid (ho.lower (B' := w.heap.size) (by have := G0.out; omega))
      have HBB := Lib.hid hb
      clear ho hb ht
      go_wp2_with fail
      go_ret
      exact ⟨_, rfl, HO.out, HBB.out⟩
set_option maxRecDepth 100000 in
set_option maxHeartbeats 2000000 in
theorem rdrawn_any (kA : Option Addr) (kn kc : Nat) (key : List Nat) (p gn : Nat) (w : World) (hK : KeyOk key) (ik : IsB w kA kn kc key) (hp : p < 256) (hg : gn < 65536) :
    Calls Try.prog 63 #[.slice kA kn kc, .int .u8 (p : Int), .int .u16 (gn : Int)] w fun e w' => ∃ v, e = .returned v ∧ OwB w' w.heap.size v (drawnA key p gn) ∧ Below w.heap.size w w' := by
  obtain ⟨i0, hi0, hz0, hz1, hz2⟩ := info_parts infoU8
  have hb0 : Calls Try.prog 86 #[.slice kA kn kc, .int .u8 (p : Int), .int .u16 (gn : Int), .int .u8 0] w fun e w' => ∃ v, e = .returned v ∧ OwB w' w.heap.size v (encA key (blkH p gn 0)) ∧ Below w.heap.size w w' := rblock_any kA kn kc key p gn 0 w hK ik hp hg (by decide)
  have hb1 : ∀ W, IsB W kA kn kc key → Calls Try.prog 86 #[.slice kA kn kc, .int .u8 (p : Int), .int .u16 (gn : Int), .int .u8 1] W fun e w' => ∃ v, e = .returned v ∧ OwB w' W.heap.size v (encA key (blkH p gn 1)) ∧ Below W.heap.size W w' := fun W h => rblock_any kA kn kc key p gn 1 W hK h hp hg (by decide)
  have l0 := encA_len key (blkH p gn 0)
  have l1 := encA_len key (blkH p gn 1)
  rw [show drawnA key p gn = encA key (blkH p gn 0) ++ encA key (blkH p gn 1) from rfl]
  generalize encA key (blkH p gn 0) = X at *
  generalize encA key (blkH p gn 1) = Y at *
  have H0 := Lib.hid hb0
  have H1 := Lib.hid hb1
  have L0 := Lib.hid l0
  have L1 := Lib.hid l1
  have IK := Lib.hid ik
  clear hb0 hb1 l0 l1 ik hK hp hg
  go_enter Try.func63, Try.ntmps63
  go_wp2_with fail
  refine H0.out.mono ?_
  rintro e w1 ⟨v, rfl, hv, hb⟩
  have V1 := Lib.hid hv
  have B1 := Lib.hid hb
  have K1 := Lib.hid (IK.out.ab hb)
  clear hv hb H0 IK
  go_wp2_with fail
  refine (H1.out w1 K1.out).mono ?_
  rintro e w2 ⟨u, rfl, hu, hb⟩
  obtain ⟨g2, c2, rfl, h2⟩ := hu.cut L1.out (by decide)
  have U2 := Lib.hid h2
  have V2 := Lib.hid (V1.out.ab hb)
  have B2 := Lib.hid (below_tr B1.out hb B1.out.size)
  clear hu hb h2 V1 B1 H1 K1
  go_wp2_with (refine wpList_appB _ rfl (.tmp 10) (.tmp 14) rfl Try.underlying22 hi0 hz0 hz1 hz2 rfl V2.out rfl U2.out rfl (by rw [L0.out]; decide) B2.out.size ?_
               intro v3 w3 hv3 hb3 hg3 hat3
               have V3 := Lib.hid hv3
               have B3 := Lib.hid (B2.out.trans hb3)
               clear hv3 hb3 hg3 hat3)
  go_ret
  exact ⟨_, rfl, V3.out, B3.out⟩
/-- a fresh block of noughts -/
def NewB (w0 : World) (v : Value) (W : World) : Prop := ∃ g, v = .pointer (some ⟨g, 0, none⟩) ∧ Bk W g 23 z16 ∧ w0.heap.size ≤ g
theorem NewB.mono (w0 : World) : Mono (NewB w0) := fun v W W' ⟨g, h1, h2, h3⟩ hb => ⟨g, h1, h2.ab hb, h3⟩
set_option maxRecDepth 100000 in
set_option maxHeartbeats 4000000 in
theorem rmark_any (kA sA : Option Addr) (kn kc sc : Nat) (key secret : List Nat) (w : World) (hK : KeyOk key) (ik : IsB w kA kn kc key) (is : IsB w sA 16 sc secret) :
    Calls Try.prog 64 #[.slice kA kn kc, .slice sA 16 sc] w fun e w' => ∃ v, e = .returned v ∧ OwB w' w.heap.size v (encA (drawnA key 3 0) secret) ∧ Below w.heap.size w w' := by
  obtain ⟨i0, hi0, hz0, hz1, hz2⟩ := info_parts infoU8
  have hdr : ∀ W, IsB W kA kn kc key → Calls Try.prog 63 #[.slice kA kn kc, .int .u8 3, .int .u16 0] W fun e w' => ∃ v, e = .returned v ∧ OwB w' W.heap.size v (drawnA key 3 0) ∧ Below W.heap.size W w' := fun W h => rdrawn_any kA kn kc key 3 0 W hK h (by decide) (by decide)
  have db := drawnA_byt hK ik.2 (p := 3) (gn := 0) (by decide) (by decide)
  have dl := drawnA_len key 3 0
  generalize drawnA key 3 0 = D at *
  have hKD : KeyOk D := .inr dl
  have hl := is.len
  have henc : ∀ A c W (h : IsB W A 32 c D), Calls Try.prog 72 #[.slice A 32 c, .agg (bts secret)] W fun e w' => e = .returned (.agg (bts (encA D secret))) ∧ Below W.heap.size W w' :=
    fun A c W h => rEnc_any (D.length / 4) (D.length / 4 + 6) 32 D secret A c W hKD.four rfl (by rw [dl]) h is.2 hl
  have tb := encA_byt hKD db is.2
  have tl := encA_len D secret
  generalize encA D secret = T at *
  obtain ⟨x, rfl, hxb, hxc⟩ := is.cell (by decide)
  have hsp : upd (at' secret) z16 16 = secret := by
    refine at'_ext (by rw [upd_len, hl]; rfl) fun i hi => ?_
    rw [upd_len] at hi
    show (upd (at' secret) z16 16)[i]?.getD 0 = _
    rw [upd_get _ _ _ _ hi, if_pos (show i < 16 from hi)]
  have hb1 : Bk (w.alloc (.cells (bts z16) 23)) w.heap.size 23 (upd (at' secret) z16 0) := by rw [upd_zero]; exact Bk.newAt _ z16 rfl
  have hbl : Below w.heap.size w (w.alloc (.cells (bts z16) 23)) := (Below.refl _ _).alloc (Nat.le_refl _) _
  have HXC := Lib.hid hxc
  have HXB := Lib.hid hxb
  have HSP := Lib.hid hsp
  have HL := Lib.hid hl
  have HDR := Lib.hid hdr
  have HEN := Lib.hid henc
  have HDL := Lib.hid dl
  have HTB := Lib.hid tb
  have HTL := Lib.hid tl
  have B1 := Lib.hid hb1
  have BL := Lib.hid hbl
  have IK := Lib.hid ik
  have HBY := Lib.hid is.2
  clear hxc hxb hsp hl hdr henc dl tb tl hb1 hbl ik is db hK hKD
  go_enter Try.func64, Try.ntmps64
  go_wp2_with fail
  go_loopw [6] (fun j wr => ∃ i : Nat, i ≤ 16 ∧ j = .int .i64 i ∧ Bk wr w.heap.size 23 (upd (at' secret) z16 i) ∧ Below w.heap.size w wr) (fun j _ => 16 - (intOf j).toNat)
  case atStart => exact ⟨0, by omega, rfl, B1.out, BL.out⟩
  case round =>
    obtain ⟨i, hi, rfl, k2, kb⟩ := hrel
    by_cases hlt : i < 16
    · have hii : (i : Int) < 16 := by omega
      have hcl : wr.cell? (x.add i) = some (.int .u8 (at' secret i : Nat)) := (kb.cell (by rw [add_block]; exact HXB.out)).trans (HXC.out i hlt)
      have hoc := k2.cell (k := i) (by rw [upd_len]; show i < 16; omega)
      have hof := k2.free i
      have hst := k2.set i (at' secret i)
      rw [upd_step (at' secret) z16 i (by show i < 16; omega)] at hst
      generalize (upd (at' secret) z16 i)[i]?.getD 0 = u at hoc
      have N2 := Lib.hid hst
      have N3 := Lib.hid (kb.setCell (p := ⟨w.heap.size, i, none⟩) (Nat.le_refl _) (.int .u8 (at' secret i : Nat)))
      generalize at' secret i = v at *
      clear hst k2 kb
      go_wp2_with fail
      go_roundw
      case rel => exact ⟨i + 1, by omega, by go_num, N2.out, N3.out⟩
      case measure => simp [intOf]; omega
    · obtain rfl : i = 16 := by omega
      rw [HSP.out] at k2
      have K2 := Lib.hid k2
      have KB := Lib.hid kb
      have I2 := Lib.hid (IK.out.ab kb)
      clear k2 kb hi hlt HXC HXB HSP B1 BL IK
      go_wp2_with fail
      refine wp_wide3 [⟨20, IsR (.slice kA kn kc), [], false⟩, ⟨21, OwR wr.heap.size (D), [0], false⟩, ⟨22, IsR (.agg (bts secret)), [], false⟩, ⟨23, IsR (.agg (bts T)), [1, 2], false⟩, ⟨7, NewB wr, [], false⟩] (by kernel_rfl) (by kernel_rfl) rfl rfl rfl ⟨?_, ?_, ?_, ?_, ?_, trivial⟩ ?_
      · refine ⟨rfl, IsR.mono _, fun a W hA hb hd => takes_plain rfl (yields_value _ ?_ rfl)⟩
        have h0 : a.tmps[0]?.getD undef = .slice kA kn kc := (eval_get a 0).trans ((hA.eval (by simp)).trans rfl)
        go_simp
      · refine ⟨rfl, OwR.mono _ _, fun a W hA hb hd => takes_plain rfl ?_⟩
        have h20 : a.tmps[20]?.getD undef = .slice kA kn kc := (eval_get a 20).trans (hd 0 (by simp) _ rfl)
        refine yields_call 63 #[.slice kA kn kc, .int .u8 3, .int .u16 0] (by go_simp) ((HDR.out W (I2.out.ab hb)).mono ?_)
        rintro e W1 ⟨v1, rfl, hv1, hb1⟩
        exact ⟨_, rfl, hv1.lower hb.size, hb1⟩
      · refine ⟨rfl, IsR.mono _, fun a W hA hb hd => takes_plain rfl ?_⟩
        exact yields_value _ (exec_loadB 23 (.tmp 5) rfl w.heap.size (by rw [hA.eval (by simp)]; rfl) (K2.out.ab hb) Try.underlying23 (by rw [HL.out]; exact sz16)) rfl
      · refine ⟨rfl, IsR.mono _, fun a W hA hb hd => takes_plain rfl ?_⟩
        have ho : OwB W wr.heap.size (a.eval (.tmp 21)) (D) := hd 1 (by simp) _ rfl
        obtain ⟨g, c, he, hx2⟩ := ho.cut HDL.out (by decide)
        have h21 : a.tmps[21]?.getD undef = .slice (some ⟨g, 0, none⟩) 32 c := (eval_get a 21).trans he
        have h22 : a.tmps[22]?.getD undef = .agg (bts secret) := (eval_get a 22).trans (hd 2 (by simp) _ rfl)
        exact yields_call 72 #[.slice (some ⟨g, 0, none⟩) 32 c, .agg (bts secret)] (by go_simp) ((HEN.out _ _ W hx2).mono fun e W9 hh => ⟨_, hh.1, rfl, hh.2⟩)
      · refine ⟨rfl, NewB.mono _, fun a W hA hb hd => takes_plain rfl ?_⟩
        exact .inl ⟨_, W.alloc (.cells (bts z16) 23), by go_simp; rfl, ⟨W.heap.size, rfl, Bk.newAt _ z16 rfl, hb.size⟩, (Below.refl _ _).alloc (Nat.le_refl _) _, fresh_no _ _ _⟩
      intro vs w9 hR hF hb
      have e23 : vs 23 = .agg (bts T) := hR 3 _ rfl
      obtain ⟨g, e7, k7, l7⟩ : NewB wr (vs 7) w9 := hR 4 _ rfl
      simp only [List.map_cons, List.map_nil, List.foldl_cons, List.foldl_nil, List.length_cons, List.length_nil, List.drop_succ_cons, List.drop_zero, Act.put, List.setIfInBounds_toArray, List.set_cons_zero, List.set_cons_succ, e23, e7]
      generalize vs 20 = q20 at *
      generalize vs 21 = q21 at *
      generalize vs 22 = q22 at *
      have K7 := Lib.hid k7
      have B7 := Lib.hid (below_tr KB.out hb KB.out.size)
      have G0 : Hid (w.heap.size ≤ g) := Lib.hid (Nat.le_trans KB.out.size l7)
      clear hR hF hb e23 e7 k7 l7 K2 KB I2 HDR HEN
      refine wpList_storeN (l := z16) rfl 23 (.tmp 7) (.tmp 23) rfl g rfl T rfl (t := 23) K7.out (by rw [HTL.out]; exact sz16) (by rw [HTL.out]; rfl) ?_
      intro W1 hW1
      have T6 : Hid (Bk W1 g 23 T) := Lib.hid (by rw [hW1]; exact K7.out.row _)
      have B6 : Hid (Below w.heap.size w W1) := Lib.hid (by rw [hW1]; exact Below.row B7.out G0.out _)
      clear hW1 K7 B7
      go_wp2_with fail
      go_loopw [8, 9] (fun v j wr => ∃ k : Nat, k ≤ 16 ∧ j = .int .i64 k ∧ OwB wr (g + 1) v (T.take k) ∧ Bk wr g 23 T ∧ Below w.heap.size w wr) (fun _ j _ => 16 - (intOf j).toNat)
      case atStart => exact ⟨0, Nat.zero_le _, rfl, OwB.nil _ _, T6.out, B6.out⟩
      case round =>
        obtain ⟨k, hk, rfl, ho, ht, hb⟩ := hrel
        clear T6 B6
        by_cases hlt : k < 16
        · have hki : (k : Int) < 16 := by omega
          have hcl := ht.cell (k := k) (by rw [HTL.out]; exact hlt)
          rw [show T[k]?.getD 0 = at' T k from rfl] at hcl
          have hts := take_snoc' (l := T) (p := k) (by rw [HTL.out]; exact hlt)
          have hv := HTB.out.at' k
          have hlen : (T.take k).length = k := by rw [List.length_take, HTL.out]; omega
          generalize at' T k = x at *
          have HO := Lib.hid ho
          have HT := Lib.hid ht
          have HBB := Lib.hid hb
          have HS := Lib.hid hts
          have HLE := Lib.hid hlen
          have HV := Lib.hid hv
          clear ho ht hb hts hlen hv
          go_wp2_with (refine wpList_appB _ rfl (.tmp 28) (.tmp 32) rfl Try.underlying22 hi0 hz0 hz1 hz2 rfl (HO.out.alloc _) rfl (isB_one _ x HV.out) rfl (by rw [HLE.out]; omega) (by have := HT.out.lt; simp; omega) ?_
                       intro v1 w2 hv1 hb2 hg2 hat2
                       have T2 : Hid (Bk w2 g 23 T) := Lib.hid ((HT.out.alloc _).below hb2 (by omega))
                       have B2 : Hid (Below w.heap.size w w2) := Lib.hid ((HBB.out.alloc HBB.out.size _).trans (hb2.mono (by have := G0.out; omega)))
                       have V2 : Hid (OwB w2 (g + 1) v1 (T.take (k + 1))) := Lib.hid (by rw [HS.out]; exact hv1)
                       clear hv1 hb2 hg2 hat2)
          go_roundw
          case rel => exact ⟨k + 1, by omega, by go_num, V2.out, T2.out, B2.out⟩
          case measure => simp [intOf]; omega
        · obtain rfl : k = 16 := by omega
          rw [List.take_of_length_le (by rw [HTL.out]; exact Nat.le_refl _)] at ho
          have HO := Lib.hid (ho.lower (B' := w.heap.size) (by have := G0.out; omega))
          have HBB := Lib.hid hb
          clear ho hb ht
          go_wp2_with fail
          go_ret
          exact ⟨_, rfl, HO.out, HBB.out⟩
end Go.Proofs.Ytpofndciepoooaa

namespace Go.Proofs.Ytpofndciepoooaa
open Go.RowKit
set_option linter.unusedVariables false

set_option maxRecDepth 100000 in
set_option maxHeartbeats 8000000 in
theorem rwrap_any (A kA : Option Addr) (c kc ten gn cm : Nat) (hv : Value) (root key : List Nat) (w : World) (ir : IsB w A 32 c root) (ik : IsB w kA 16 kc key) (ht : ten < 4294967296) (hg : gn < 65536) (hc : cm < 18446744073709551616) :
    Calls Try.prog 58 #[.slice A 32 c, .int .u32 (ten : Int), .agg #[.int .u16 (gn : Int), .int .u64 (cm : Int), hv], .slice kA 16 kc] w fun e w' => ∃ v, e = .returned v ∧ OwB w' w.heap.size v (wrapA root ten gn cm key) ∧ Below w.heap.size w w' := by
  have R0 : Hid (HdB (w.alloc (.cells #[.int .u16 (gn : Int), .int .u64 (cm : Int), hv] 67)) w.heap.size #[.int .u16 (gn : Int), .int .u64 (cm : Int), hv]) := Lib.hid (heap_alloc_new w _)
  have B0 : Hid (Below w.heap.size w (w.alloc (.cells #[.int .u16 (gn : Int), .int .u64 (cm : Int), hv] 67))) := Lib.hid ((Below.refl _ _).alloc (Nat.le_refl _) _)
  have IR : Hid (IsB (w.alloc (.cells #[.int .u16 (gn : Int), .int .u64 (cm : Int), hv] 67)) A 32 c root) := Lib.hid (ir.alloc _)
  have IK : Hid (IsB (w.alloc (.cells #[.int .u16 (gn : Int), .int .u64 (cm : Int), hv] 67)) kA 16 kc key) := Lib.hid (ik.alloc _)
  have hK : KeyOk root := .inr ir.len
  have HDR : Hid (∀ W, IsB W A 32 c root → Calls Try.prog 63 #[.slice A 32 c, .int .u8 2, .int .u16 (gn : Int)] W fun e w' => ∃ v, e = .returned v ∧ OwB w' W.heap.size v (drawnA root 2 gn) ∧ Below W.heap.size W w') := Lib.hid fun W h => rdrawn_any A 32 c root 2 gn W hK h (by decide) hg
  have HNO := Lib.hid fun W => rnonce_any ten cm W ht hc
  have HBE := Lib.hid fun W => rbeside_any ten gn W ht hg
  have HDL := Lib.hid (drawnA_len root 2 gn)
  have HNL := Lib.hid (nonH_len ten cm)
  have HBL := Lib.hid (besH_len ten gn)
  have hse := fun A1 c1 g2 c2 g3 c3 W h1 h2 h3 h4 => rseal_any A1 (some ⟨g2, 0, none⟩) (some ⟨g3, 0, none⟩) kA 32 c1 12 c2 6 c3 16 kc (drawnA root 2 gn) (nonH ten cm) (besH ten gn) key W h1 h2 h3 h4
  rw [show sealS (drawnA root 2 gn) (nonH ten cm) (besH ten gn) key = (sealA (drawnA root 2 gn) (nonH ten cm) (besH ten gn) key, 0) by unfold sealS; rw [if_pos (gokH ten gn cm), if_neg (by rw [besH_len, ik.len]; decide)]] at hse
  unfold wrapA
  have HSE := Lib.hid hse
  clear hse ir ik ht hg hc hK
  generalize sealA (drawnA root 2 gn) (nonH ten cm) (besH ten gn) key = S at *
  go_enter Try.func58, Try.ntmps58
  go_wp2_with fail
  obtain ⟨W0, hW0⟩ : ∃ W0, W0 = (w.alloc (.cells #[.int .u16 (gn : Int), .int .u64 (cm : Int), hv] 67)) := ⟨_, rfl⟩
  change Code.wp _ _ _ _ (w.alloc (.cells #[.int .u16 (gn : Int), .int .u64 (cm : Int), hv] 67))
  rw [← hW0] at IR IK R0 B0 ⊢
  clear hW0
  refine wp_wide3 [⟨12, IsR (.slice A 32 c), [], false⟩, ⟨13, IsR (.pointer (some ⟨w.heap.size, 0, none⟩)), [], false⟩, ⟨14, IsR (.int .u16 (gn : Int)), [1], false⟩, ⟨15, OwR W0.heap.size (drawnA root 2 gn), [0, 2], false⟩, ⟨16, IsR (.int .u32 (ten : Int)), [], false⟩, ⟨17, IsR (.pointer (some ⟨w.heap.size, 1, none⟩)), [], false⟩, ⟨18, IsR (.int .u64 (cm : Int)), [5], false⟩, ⟨19, OwR W0.heap.size (nonH ten cm), [4, 6], false⟩, ⟨20, IsR (.int .u32 (ten : Int)), [], false⟩, ⟨21, IsR (.pointer (some ⟨w.heap.size, 0, none⟩)), [], false⟩, ⟨22, IsR (.int .u16 (gn : Int)), [9], false⟩, ⟨23, OwR W0.heap.size (besH ten gn), [8, 10], false⟩, ⟨24, IsR (.slice kA 16 kc), [], false⟩, ⟨25, TupB W0.heap.size 0 (S), [3, 7, 11, 12], false⟩, ⟨11, TupB W0.heap.size 0 (S), [13], false⟩, ⟨26, OwR W0.heap.size (S), [14], false⟩, ⟨27, IsR (.int .i64 (0 : Int)), [14], false⟩, ⟨9, OwR W0.heap.size (S), [15], false⟩] (by kernel_rfl) (by kernel_rfl) rfl rfl rfl ⟨?_, ?_, ?_, ?_, ?_, ?_, ?_, ?_, ?_, ?_, ?_, ?_, ?_, ?_, ?_, ?_, ?_, ?_, trivial⟩ ?_
  · refine ⟨rfl, IsR.mono _, fun a W hA hb hd => takes_plain rfl (yields_value _ ?_ rfl)⟩
    have h0 : a.tmps[0]?.getD undef = .slice A 32 c := (eval_get a 0).trans ((hA.eval (by simp)).trans rfl)
    go_simp
  · refine ⟨rfl, IsR.mono _, fun a W hA hb hd => takes_plain rfl (yields_value _ ?_ rfl)⟩
    have h6 : a.tmps[6]?.getD undef = .pointer (some ⟨w.heap.size, 0, none⟩) := (eval_get a 6).trans ((hA.eval (by simp)).trans rfl)
    go_simp
  · refine ⟨rfl, IsR.mono _, fun a W hA hb hd => takes_plain rfl (yields_value _ ?_ rfl)⟩
    have h13 : a.tmps[13]?.getD undef = .pointer (some ⟨w.heap.size, 0, none⟩) := (eval_get a 13).trans (hd 1 (by simp) _ rfl)
    obtain ⟨x0, x1, x2⟩ := (R0.out.ab hb).cells
    go_simp
  · refine ⟨rfl, OwR.mono _ _, fun a W hA hb hd => takes_plain rfl ?_⟩
    have h12 : a.tmps[12]?.getD undef = .slice A 32 c := (eval_get a 12).trans (hd 0 (by simp) _ rfl)
    have h14 : a.tmps[14]?.getD undef = .int .u16 (gn : Int) := (eval_get a 14).trans (hd 2 (by simp) _ rfl)
    refine yields_call 63 #[.slice A 32 c, .int .u8 2, .int .u16 (gn : Int)] (by go_simp) ((HDR.out W (IR.out.ab hb)).mono ?_)
    rintro e W1 ⟨v1, rfl, hv1, hb1⟩
    exact ⟨_, rfl, hv1.lower hb.size, hb1⟩
  · refine ⟨rfl, IsR.mono _, fun a W hA hb hd => takes_plain rfl (yields_value _ ?_ rfl)⟩
    have h1 : a.tmps[1]?.getD undef = .int .u32 (ten : Int) := (eval_get a 1).trans ((hA.eval (by simp)).trans rfl)
    go_simp
  · refine ⟨rfl, IsR.mono _, fun a W hA hb hd => takes_plain rfl (yields_value _ ?_ rfl)⟩
    have h6 : a.tmps[6]?.getD undef = .pointer (some ⟨w.heap.size, 0, none⟩) := (eval_get a 6).trans ((hA.eval (by simp)).trans rfl)
    go_simp
  · refine ⟨rfl, IsR.mono _, fun a W hA hb hd => takes_plain rfl (yields_value _ ?_ rfl)⟩
    have h17 : a.tmps[17]?.getD undef = .pointer (some ⟨w.heap.size, 1, none⟩) := (eval_get a 17).trans (hd 5 (by simp) _ rfl)
    obtain ⟨x0, x1, x2⟩ := (R0.out.ab hb).cells
    go_simp
  · refine ⟨rfl, OwR.mono _ _, fun a W hA hb hd => takes_plain rfl ?_⟩
    have h16 : a.tmps[16]?.getD undef = .int .u32 (ten : Int) := (eval_get a 16).trans (hd 4 (by simp) _ rfl)
    have h18 : a.tmps[18]?.getD undef = .int .u64 (cm : Int) := (eval_get a 18).trans (hd 6 (by simp) _ rfl)
    refine yields_call 82 #[.int .u32 (ten : Int), .int .u64 (cm : Int)] (by go_simp) ((HNO.out W).mono ?_)
    rintro e W1 ⟨v1, rfl, hv1, hb1⟩
    exact ⟨_, rfl, hv1.lower hb.size, hb1⟩
  · refine ⟨rfl, IsR.mono _, fun a W hA hb hd => takes_plain rfl (yields_value _ ?_ rfl)⟩
    have h1 : a.tmps[1]?.getD undef = .int .u32 (ten : Int) := (eval_get a 1).trans ((hA.eval (by simp)).trans rfl)
    go_simp
  · refine ⟨rfl, IsR.mono _, fun a W hA hb hd => takes_plain rfl (yields_value _ ?_ rfl)⟩
    have h6 : a.tmps[6]?.getD undef = .pointer (some ⟨w.heap.size, 0, none⟩) := (eval_get a 6).trans ((hA.eval (by simp)).trans rfl)
    go_simp
  · refine ⟨rfl, IsR.mono _, fun a W hA hb hd => takes_plain rfl (yields_value _ ?_ rfl)⟩
    have h21 : a.tmps[21]?.getD undef = .pointer (some ⟨w.heap.size, 0, none⟩) := (eval_get a 21).trans (hd 9 (by simp) _ rfl)
    obtain ⟨x0, x1, x2⟩ := (R0.out.ab hb).cells
    go_simp
  · refine ⟨rfl, OwR.mono _ _, fun a W hA hb hd => takes_plain rfl ?_⟩
    have h20 : a.tmps[20]?.getD undef = .int .u32 (ten : Int) := (eval_get a 20).trans (hd 8 (by simp) _ rfl)
    have h22 : a.tmps[22]?.getD undef = .int .u16 (gn : Int) := (eval_get a 22).trans (hd 10 (by simp) _ rfl)
    refine yields_call 83 #[.int .u32 (ten : Int), .int .u16 (gn : Int)] (by go_simp) ((HBE.out W).mono ?_)
    rintro e W1 ⟨v1, rfl, hv1, hb1⟩
    exact ⟨_, rfl, hv1.lower hb.size, hb1⟩
  · refine ⟨rfl, IsR.mono _, fun a W hA hb hd => takes_plain rfl (yields_value _ ?_ rfl)⟩
    have h3 : a.tmps[3]?.getD undef = .slice kA 16 kc := (eval_get a 3).trans ((hA.eval (by simp)).trans rfl)
    go_simp
  · refine ⟨rfl, TupB.mono _ _ _, fun a W hA hb hd => takes_plain rfl ?_⟩
    have o0 : OwB W W0.heap.size (a.eval (.tmp 15)) (drawnA root 2 gn) := hd 3 (by simp) _ rfl
    obtain ⟨g0, c0, e0, i0⟩ := o0.cut HDL.out (by decide)
    have h15 : a.tmps[15]?.getD undef = _ := (eval_get a 15).trans e0
    have o1 : OwB W W0.heap.size (a.eval (.tmp 19)) (nonH ten cm) := hd 7 (by simp) _ rfl
    obtain ⟨g1, c1, e1, i1⟩ := o1.cut HNL.out (by decide)
    have h19 : a.tmps[19]?.getD undef = _ := (eval_get a 19).trans e1
    have o2 : OwB W W0.heap.size (a.eval (.tmp 23)) (besH ten gn) := hd 11 (by simp) _ rfl
    obtain ⟨g2, c2, e2, i2⟩ := o2.cut HBL.out (by decide)
    have h23 : a.tmps[23]?.getD undef = _ := (eval_get a 23).trans e2
    have h24 : a.tmps[24]?.getD undef = .slice kA 16 kc := (eval_get a 24).trans (hd 12 (by simp) _ rfl)
    refine yields_call 34 #[.slice (some ⟨g0, 0, none⟩) 32 c0, .slice (some ⟨g1, 0, none⟩) 12 c1, .slice (some ⟨g2, 0, none⟩) 6 c2, .slice kA 16 kc] (by go_simp) ((HSE.out _ _ _ _ _ _ W i0 i1 i2 (IK.out.ab hb)).mono ?_)
    rintro e W9 ⟨v9, rfl, hv9, hb9⟩
    exact ⟨_, rfl, ⟨v9, rfl, hv9.lower hb.size⟩, hb9⟩
  · refine ⟨rfl, TupB.mono _ _ _, fun a W hA hb hd => takes_plain rfl ?_⟩
    obtain ⟨v0, e0, ho⟩ := hd 13 (by simp) _ rfl
    have h0 : a.tmps[25]?.getD undef = .tuple #[v0, .int .i64 ((0 : Nat) : Int)] := (eval_get a 25).trans e0
    refine yields_value (.tuple #[v0, .int .i64 ((0 : Nat) : Int)]) ?_ ⟨v0, rfl, ho⟩
    go_simp
  · refine ⟨rfl, OwR.mono _ _, fun a W hA hb hd => takes_plain rfl ?_⟩
    obtain ⟨v0, e0, ho⟩ := hd 14 (by simp) _ rfl
    have h0 : a.tmps[11]?.getD undef = .tuple #[v0, .int .i64 ((0 : Nat) : Int)] := (eval_get a 11).trans e0
    refine yields_value v0 ?_ ho
    go_simp
  · refine ⟨rfl, IsR.mono _, fun a W hA hb hd => takes_plain rfl ?_⟩
    obtain ⟨v0, e0, ho⟩ := hd 14 (by simp) _ rfl
    have h0 : a.tmps[11]?.getD undef = .tuple #[v0, .int .i64 ((0 : Nat) : Int)] := (eval_get a 11).trans e0
    refine yields_value (.int .i64 (0 : Int)) ?_ rfl
    go_simp
  · refine ⟨rfl, OwR.mono _ _, fun a W hA hb hd => takes_plain rfl ?_⟩
    have ho : OwB W W0.heap.size (a.eval (.tmp 26)) (S) := hd 15 (by simp) _ rfl
    exact yields_value (a.eval (.tmp 26)) (exec_assign (.tmp 26) rfl W) ho
  intro vs w9 hR hF hb
  have S9 : Hid (OwB w9 W0.heap.size (vs 9) S) := Lib.hid (hR 17 _ rfl)
  have B9 := Lib.hid (below_tr B0.out hb B0.out.size)
  clear hR hF hb
  simp only [List.map_cons, List.map_nil, List.foldl_cons, List.foldl_nil, List.length_cons, List.length_nil, List.drop_succ_cons, List.drop_zero, Act.put, List.setIfInBounds_toArray, List.set_cons_zero, List.set_cons_succ]
  generalize vs 12 = q12 at *
  generalize vs 13 = q13 at *
  generalize vs 14 = q14 at *
  generalize vs 15 = q15 at *
  generalize vs 16 = q16 at *
  generalize vs 17 = q17 at *
  generalize vs 18 = q18 at *
  generalize vs 19 = q19 at *
  generalize vs 20 = q20 at *
  generalize vs 21 = q21 at *
  generalize vs 22 = q22 at *
  generalize vs 23 = q23 at *
  generalize vs 24 = q24 at *
  generalize vs 25 = q25 at *
  generalize vs 11 = q11 at *
  generalize vs 26 = q26 at *
  generalize vs 27 = q27 at *
  generalize vs 9 = q9 at *
  go_wp2_with fail
  go_ret
  exact ⟨_, rfl, S9.out.lower B0.out.size, B9.out⟩
set_option maxRecDepth 100000 in
set_option maxHeartbeats 8000000 in
theorem runwrap_any (A sA : Option Addr) (c sc ten gn cm : Nat) (root s : List Nat) (w : World) (ir : IsB w A 32 c root) (is : IsB w sA 32 sc s) (ht : ten < 4294967296) (hg : gn < 65536) (hc : cm < 18446744073709551616) :
    Calls Try.prog 59 #[.slice A 32 c, .int .u32 (ten : Int), .agg #[.int .u16 (gn : Int), .int .u64 (cm : Int), .slice sA 32 sc]] w (OutB w (unwrapA root ten gn cm s).1 (unwrapA root ten gn cm s).2) := by
  have R0 : Hid (HdB (w.alloc (.cells #[.int .u16 (gn : Int), .int .u64 (cm : Int), .slice sA 32 sc] 67)) w.heap.size #[.int .u16 (gn : Int), .int .u64 (cm : Int), .slice sA 32 sc]) := Lib.hid (heap_alloc_new w _)
  have B0 : Hid (Below w.heap.size w (w.alloc (.cells #[.int .u16 (gn : Int), .int .u64 (cm : Int), .slice sA 32 sc] 67))) := Lib.hid ((Below.refl _ _).alloc (Nat.le_refl _) _)
  have IR : Hid (IsB (w.alloc (.cells #[.int .u16 (gn : Int), .int .u64 (cm : Int), .slice sA 32 sc] 67)) A 32 c root) := Lib.hid (ir.alloc _)
  have IK : Hid (IsB (w.alloc (.cells #[.int .u16 (gn : Int), .int .u64 (cm : Int), .slice sA 32 sc] 67)) sA 32 sc s) := Lib.hid (is.alloc _)
  have hK : KeyOk root := .inr ir.len
  have HDR : Hid (∀ W, IsB W A 32 c root → Calls Try.prog 63 #[.slice A 32 c, .int .u8 2, .int .u16 (gn : Int)] W fun e w' => ∃ v, e = .returned v ∧ OwB w' W.heap.size v (drawnA root 2 gn) ∧ Below W.heap.size W w') := Lib.hid fun W h => rdrawn_any A 32 c root 2 gn W hK h (by decide) hg
  have HNO := Lib.hid fun W => rnonce_any ten cm W ht hc
  have HBE := Lib.hid fun W => rbeside_any ten gn W ht hg
  have HDL := Lib.hid (drawnA_len root 2 gn)
  have HNL := Lib.hid (nonH_len ten cm)
  have HBL := Lib.hid (besH_len ten gn)
  have hse := fun A1 c1 g2 c2 g3 c3 W h1 h2 h3 h4 => ropen_any A1 (some ⟨g2, 0, none⟩) (some ⟨g3, 0, none⟩) sA 32 c1 12 c2 6 c3 32 sc (drawnA root 2 gn) (nonH ten cm) (besH ten gn) s W h1 h2 h3 h4
  unfold unwrapA
  have HSE := Lib.hid hse
  clear hse ir is ht hg hc hK
  generalize openS (drawnA root 2 gn) (nonH ten cm) (besH ten gn) s = S at *
  obtain ⟨out, err⟩ := S
  go_enter Try.func59, Try.ntmps59
  go_wp2_with fail
  obtain ⟨W0, hW0⟩ : ∃ W0, W0 = (w.alloc (.cells #[.int .u16 (gn : Int), .int .u64 (cm : Int), .slice sA 32 sc] 67)) := ⟨_, rfl⟩
  change Code.wp _ _ _ _ (w.alloc (.cells #[.int .u16 (gn : Int), .int .u64 (cm : Int), .slice sA 32 sc] 67))
  rw [← hW0] at IR IK R0 B0 ⊢
  clear hW0
  refine wp_wide3 [⟨8, IsR (.slice A 32 c), [], false⟩, ⟨9, IsR (.pointer (some ⟨w.heap.size, 0, none⟩)), [], false⟩, ⟨10, IsR (.int .u16 (gn : Int)), [1], false⟩, ⟨11, OwR W0.heap.size (drawnA root 2 gn), [0, 2], false⟩, ⟨12, IsR (.int .u32 (ten : Int)), [], false⟩, ⟨13, IsR (.pointer (some ⟨w.heap.size, 1, none⟩)), [], false⟩, ⟨14, IsR (.int .u64 (cm : Int)), [5], false⟩, ⟨15, OwR W0.heap.size (nonH ten cm), [4, 6], false⟩, ⟨16, IsR (.int .u32 (ten : Int)), [], false⟩, ⟨17, IsR (.pointer (some ⟨w.heap.size, 0, none⟩)), [], false⟩, ⟨18, IsR (.int .u16 (gn : Int)), [9], false⟩, ⟨19, OwR W0.heap.size (besH ten gn), [8, 10], false⟩, ⟨20, IsR (.pointer (some ⟨w.heap.size, 2, none⟩)), [], false⟩, ⟨21, IsR (.slice sA 32 sc), [12], false⟩, ⟨22, TupB W0.heap.size err (out), [3, 7, 11, 13], false⟩, ⟨23, OwR W0.heap.size (out), [14], false⟩, ⟨24, IsR (.int .i64 (err : Int)), [14], false⟩, ⟨6, OwR W0.heap.size (out), [15], false⟩] (by kernel_rfl) (by kernel_rfl) rfl rfl rfl ⟨?_, ?_, ?_, ?_, ?_, ?_, ?_, ?_, ?_, ?_, ?_, ?_, ?_, ?_, ?_, ?_, ?_, ?_, trivial⟩ ?_
  · refine ⟨rfl, IsR.mono _, fun a W hA hb hd => takes_plain rfl (yields_value _ ?_ rfl)⟩
    have h0 : a.tmps[0]?.getD undef = .slice A 32 c := (eval_get a 0).trans ((hA.eval (by simp)).trans rfl)
    go_simp
  · refine ⟨rfl, IsR.mono _, fun a W hA hb hd => takes_plain rfl (yields_value _ ?_ rfl)⟩
    have h5 : a.tmps[5]?.getD undef = .pointer (some ⟨w.heap.size, 0, none⟩) := (eval_get a 5).trans ((hA.eval (by simp)).trans rfl)
    go_simp
  · refine ⟨rfl, IsR.mono _, fun a W hA hb hd => takes_plain rfl (yields_value _ ?_ rfl)⟩
    have h9 : a.tmps[9]?.getD undef = .pointer (some ⟨w.heap.size, 0, none⟩) := (eval_get a 9).trans (hd 1 (by simp) _ rfl)
    obtain ⟨x0, x1, x2⟩ := (R0.out.ab hb).cells
    go_simp
  · refine ⟨rfl, OwR.mono _ _, fun a W hA hb hd => takes_plain rfl ?_⟩
    have h8 : a.tmps[8]?.getD undef = .slice A 32 c := (eval_get a 8).trans (hd 0 (by simp) _ rfl)
    have h10 : a.tmps[10]?.getD undef = .int .u16 (gn : Int) := (eval_get a 10).trans (hd 2 (by simp) _ rfl)
    refine yields_call 63 #[.slice A 32 c, .int .u8 2, .int .u16 (gn : Int)] (by go_simp) ((HDR.out W (IR.out.ab hb)).mono ?_)
    rintro e W1 ⟨v1, rfl, hv1, hb1⟩
    exact ⟨_, rfl, hv1.lower hb.size, hb1⟩
  · refine ⟨rfl, IsR.mono _, fun a W hA hb hd => takes_plain rfl (yields_value _ ?_ rfl)⟩
    have h1 : a.tmps[1]?.getD undef = .int .u32 (ten : Int) := (eval_get a 1).trans ((hA.eval (by simp)).trans rfl)
    go_simp
  · refine ⟨rfl, IsR.mono _, fun a W hA hb hd => takes_plain rfl (yields_value _ ?_ rfl)⟩
    have h5 : a.tmps[5]?.getD undef = .pointer (some ⟨w.heap.size, 0, none⟩) := (eval_get a 5).trans ((hA.eval (by simp)).trans rfl)
    go_simp
  · refine ⟨rfl, IsR.mono _, fun a W hA hb hd => takes_plain rfl (yields_value _ ?_ rfl)⟩
    have h13 : a.tmps[13]?.getD undef = .pointer (some ⟨w.heap.size, 1, none⟩) := (eval_get a 13).trans (hd 5 (by simp) _ rfl)
    obtain ⟨x0, x1, x2⟩ := (R0.out.ab hb).cells
    go_simp
  · refine ⟨rfl, OwR.mono _ _, fun a W hA hb hd => takes_plain rfl ?_⟩
    have h12 : a.tmps[12]?.getD undef = .int .u32 (ten : Int) := (eval_get a 12).trans (hd 4 (by simp) _ rfl)
    have h14 : a.tmps[14]?.getD undef = .int .u64 (cm : Int) := (eval_get a 14).trans (hd 6 (by simp) _ rfl)
    refine yields_call 82 #[.int .u32 (ten : Int), .int .u64 (cm : Int)] (by go_simp) ((HNO.out W).mono ?_)
    rintro e W1 ⟨v1, rfl, hv1, hb1⟩
    exact ⟨_, rfl, hv1.lower hb.size, hb1⟩
  · refine ⟨rfl, IsR.mono _, fun a W hA hb hd => takes_plain rfl (yields_value _ ?_ rfl)⟩
    have h1 : a.tmps[1]?.getD undef = .int .u32 (ten : Int) := (eval_get a 1).trans ((hA.eval (by simp)).trans rfl)
    go_simp
  · refine ⟨rfl, IsR.mono _, fun a W hA hb hd => takes_plain rfl (yields_value _ ?_ rfl)⟩
    have h5 : a.tmps[5]?.getD undef = .pointer (some ⟨w.heap.size, 0, none⟩) := (eval_get a 5).trans ((hA.eval (by simp)).trans rfl)
    go_simp
  · refine ⟨rfl, IsR.mono _, fun a W hA hb hd => takes_plain rfl (yields_value _ ?_ rfl)⟩
    have h17 : a.tmps[17]?.getD undef = .pointer (some ⟨w.heap.size, 0, none⟩) := (eval_get a 17).trans (hd 9 (by simp) _ rfl)
    obtain ⟨x0, x1, x2⟩ := (R0.out.ab hb).cells
    go_simp
  · refine ⟨rfl, OwR.mono _ _, fun a W hA hb hd => takes_plain rfl ?_⟩
    have h16 : a.tmps[16]?.getD undef = .int .u32 (ten : Int) := (eval_get a 16).trans (hd 8 (by simp) _ rfl)
    have h18 : a.tmps[18]?.getD undef = .int .u16 (gn : Int) := (eval_get a 18).trans (hd 10 (by simp) _ rfl)
    refine yields_call 83 #[.int .u32 (ten : Int), .int .u16 (gn : Int)] (by go_simp) ((HBE.out W).mono ?_)
    rintro e W1 ⟨v1, rfl, hv1, hb1⟩
    exact ⟨_, rfl, hv1.lower hb.size, hb1⟩
  · refine ⟨rfl, IsR.mono _, fun a W hA hb hd => takes_plain rfl (yields_value _ ?_ rfl)⟩
    have h5 : a.tmps[5]?.getD undef = .pointer (some ⟨w.heap.size, 0, none⟩) := (eval_get a 5).trans ((hA.eval (by simp)).trans rfl)
    go_simp
  · refine ⟨rfl, IsR.mono _, fun a W hA hb hd => takes_plain rfl (yields_value _ ?_ rfl)⟩
    have h20 : a.tmps[20]?.getD undef = .pointer (some ⟨w.heap.size, 2, none⟩) := (eval_get a 20).trans (hd 12 (by simp) _ rfl)
    obtain ⟨x0, x1, x2⟩ := (R0.out.ab hb).cells
    go_simp
  · refine ⟨rfl, TupB.mono _ _ _, fun a W hA hb hd => takes_plain rfl ?_⟩
    have o0 : OwB W W0.heap.size (a.eval (.tmp 11)) (drawnA root 2 gn) := hd 3 (by simp) _ rfl
    obtain ⟨g0, c0, e0, i0⟩ := o0.cut HDL.out (by decide)
    have h11 : a.tmps[11]?.getD undef = _ := (eval_get a 11).trans e0
    have o1 : OwB W W0.heap.size (a.eval (.tmp 15)) (nonH ten cm) := hd 7 (by simp) _ rfl
    obtain ⟨g1, c1, e1, i1⟩ := o1.cut HNL.out (by decide)
    have h15 : a.tmps[15]?.getD undef = _ := (eval_get a 15).trans e1
    have o2 : OwB W W0.heap.size (a.eval (.tmp 19)) (besH ten gn) := hd 11 (by simp) _ rfl
    obtain ⟨g2, c2, e2, i2⟩ := o2.cut HBL.out (by decide)
    have h19 : a.tmps[19]?.getD undef = _ := (eval_get a 19).trans e2
    have h21 : a.tmps[21]?.getD undef = .slice sA 32 sc := (eval_get a 21).trans (hd 13 (by simp) _ rfl)
    refine yields_call 36 #[.slice (some ⟨g0, 0, none⟩) 32 c0, .slice (some ⟨g1, 0, none⟩) 12 c1, .slice (some ⟨g2, 0, none⟩) 6 c2, .slice sA 32 sc] (by go_simp) ((HSE.out _ _ _ _ _ _ W i0 i1 i2 (IK.out.ab hb)).mono ?_)
    rintro e W9 ⟨v9, rfl, hv9, hb9⟩
    exact ⟨_, rfl, ⟨v9, rfl, hv9.lower hb.size⟩, hb9⟩
  · refine ⟨rfl, OwR.mono _ _, fun a W hA hb hd => takes_plain rfl ?_⟩
    obtain ⟨v0, e0, ho⟩ := hd 14 (by simp) _ rfl
    have h0 : a.tmps[22]?.getD undef = .tuple #[v0, .int .i64 ((err : Nat) : Int)] := (eval_get a 22).trans e0
    refine yields_value v0 ?_ ho
    go_simp
  · refine ⟨rfl, IsR.mono _, fun a W hA hb hd => takes_plain rfl ?_⟩
    obtain ⟨v0, e0, ho⟩ := hd 14 (by simp) _ rfl
    have h0 : a.tmps[22]?.getD undef = .tuple #[v0, .int .i64 ((err : Nat) : Int)] := (eval_get a 22).trans e0
    refine yields_value (.int .i64 (err : Int)) ?_ rfl
    go_simp
  · refine ⟨rfl, OwR.mono _ _, fun a W hA hb hd => takes_plain rfl ?_⟩
    have ho : OwB W W0.heap.size (a.eval (.tmp 23)) (out) := hd 15 (by simp) _ rfl
    exact yields_value (a.eval (.tmp 23)) (exec_assign (.tmp 23) rfl W) ho
  intro vs w9 hR hF hb
  have S9 : Hid (OwB w9 W0.heap.size (vs 6) out) := Lib.hid (hR 17 _ rfl)
  have e24 : vs 24 = .int .i64 (err : Int) := hR 16 _ rfl
  have B9 := Lib.hid (below_tr B0.out hb B0.out.size)
  simp only [List.map_cons, List.map_nil, List.foldl_cons, List.foldl_nil, List.length_cons, List.length_nil, List.drop_succ_cons, List.drop_zero, Act.put, List.setIfInBounds_toArray, List.set_cons_zero, List.set_cons_succ, e24]
  clear hR hF hb e24
  generalize vs 8 = q8 at *
  generalize vs 9 = q9 at *
  generalize vs 10 = q10 at *
  generalize vs 11 = q11 at *
  generalize vs 12 = q12 at *
  generalize vs 13 = q13 at *
  generalize vs 14 = q14 at *
  generalize vs 15 = q15 at *
  generalize vs 16 = q16 at *
  generalize vs 17 = q17 at *
  generalize vs 18 = q18 at *
  generalize vs 19 = q19 at *
  generalize vs 20 = q20 at *
  generalize vs 21 = q21 at *
  generalize vs 22 = q22 at *
  generalize vs 23 = q23 at *
  generalize vs 6 = q6 at *
  go_wp2_with fail
  go_ret2
  exact ⟨_, rfl, S9.out.lower B0.out.size, B9.out⟩
end Go.Proofs.Ytpofndciepoooaa

namespace Go.Proofs.Ytpofndciepoooaa
open Go.RowKit
set_option linter.unusedVariables false

theorem byt_map_inj {a b : List Nat} (ha : Byt a) (hb : Byt b) (h : a.map UInt8.ofNat = b.map UInt8.ofNat) : a = b := (strOf_inj ha hb).1 (by unfold strOf; rw [h])
theorem strOf_toList (l : List Nat) : (strOf l).toList = l.map UInt8.ofNat := ByteArray.toList_mk _
theorem str_eq {x y : List Nat} (hx : Byt x) (hy : Byt y) : ((strOf x).toList == (strOf y).toList) = decide (x = y) := by
  rw [strOf_toList, strOf_toList]
  by_cases h : x = y
  · rw [decide_eq_true h, h]; simp
  · rw [decide_eq_false h, beq_eq_false_iff_ne]
    exact fun e => h (byt_map_inj hx hy e)
theorem isB_marked {w : World} {g n : Nat} {t : TypeId} {fr : Nat × Nat} {l : List Nat} (h : w.heap[g]? = some (.cells (bts l) t fr)) (hb : Byt l) (hl : l.length = n) (hn : n ≤ 9223372036854775807) : IsB w (some ⟨g, 0, none⟩) n n l := by
  refine ⟨⟨by simp [hl], Nat.le_refl _, hn, byt_wf hb, .inr ⟨⟨g, 0, none⟩, rfl, fun _ => lt_of_block h, fun i hi => ?_⟩⟩, hb⟩
  have hc : w.cell? ⟨g, i, none⟩ = (bts l)[i]? := Joins.cell_of_block h i
  have e : (⟨g, 0, none⟩ : Addr).add i = ⟨g, i, none⟩ := by rw [Addr.add_mid, Nat.zero_add]
  rw [e, hc]
  simp [bts, List.getD_eq_getElem?_getD, List.getElem?_eq_getElem (show i < l.length by omega)]
theorem OwB.ty {w : World} {B g n c : Nat} {l : List Nat} (h : OwB w B (.slice (some ⟨g, 0, none⟩) n c) l) (hl : 0 < l.length) : ∃ cs, w.heap[g]? = some (.cells cs 5 (0, 0)) := by
  rcases h.own.2 with ⟨h1, h0⟩ | ⟨g', cap, cur, e, hb', hgg, -⟩
  · cases h1
  · simp only [Value.slice.injEq, Option.some.injEq, Addr.mk.injEq, and_true] at e
    rw [e.1]
    exact ⟨_, hgg⟩
/-- bytes with a mark behind them -/
structure LentB (w : World) (g n c : Nat) (l : List Nat) : Prop where
  isB : IsB w (some ⟨g, 0, none⟩) n c l
  mark : w.cell? ⟨g, n, none⟩ = some (.int .u8 77)
  row : ∃ cs, w.heap[g]? = some (.cells cs 5 (0, 0))
  cap : n < c
theorem LentB.lt {w : World} {g n c : Nat} {l : List Nat} (h : LentB w g n c l) : g < w.heap.size := by
  obtain ⟨cs, h⟩ := h.row
  exact lt_of_block h
theorem LentB.ab {w w' : World} {g n c : Nat} {l : List Nat} (h : LentB w g n c l) (hb : Below w.heap.size w w') : LentB w' g n c l := ⟨h.isB.ab hb, (hb.cell (p := ⟨g, n, none⟩) h.lt).trans h.mark, (by obtain ⟨cs, e⟩ := h.row; exact ⟨cs, (hb.block g h.lt).trans e⟩), h.cap⟩
theorem LentB.rowFar {w : World} {g n c : Nat} {l : List Nat} (h : LentB w g n c l) {q : Nat} (hq : g ≠ q) (cs : Array Value) : LentB (w.setRow q cs) g n c l :=
  ⟨isB_rowFar h.isB (fun x e => by injection e with e; rw [← e]; exact hq) cs, (World.cell?_of_block (a := ⟨g, n, none⟩) (setRow_other w q g cs hq)).trans h.mark, (by obtain ⟨c0, e⟩ := h.row; exact ⟨c0, (setRow_other w q g cs hq).trans e⟩), h.cap⟩
set_option maxRecDepth 100000 in
set_option maxHeartbeats 2000000 in
theorem lent_any (A : Option Addr) (n c : Nat) (l : List Nat) (w : World) (h : IsB w A n c l) (hn : n ≤ 1000000) :
    Calls Try.prog 53 #[.slice A n c] w fun e w' => ∃ g d, e = .returned (.slice (some ⟨g, 0, none⟩) n d) ∧ LentB w' g n d l ∧ Below w.heap.size w w' := by
  obtain ⟨i0, hi0, hz0, hz1, hz2⟩ := info_parts infoU8
  have hl := h.len
  have E0 : Hid (OwB (w.alloc (.cells #[] 5)) w.heap.size (.slice (some ⟨w.heap.size, 0, none⟩) 0 0) []) := Lib.hid (OwB.ofBk (l' := []) (show Bk (w.alloc (.cells (bts []) 5)) w.heap.size 5 [] from Bk.newAt _ [] rfl) (Nat.le_refl _) rfl (Nat.le_refl _) rfl (by decide) rfl (fun x hx => by cases hx))
  have I0 : Hid (IsB (w.alloc (.cells #[] 5)) A n c l) := Lib.hid (h.alloc _)
  have B0 : Hid (Below w.heap.size w (w.alloc (.cells #[] 5))) := Lib.hid ((Below.refl _ _).alloc (Nat.le_refl _) _)
  have HL := Lib.hid hl
  have HN := Lib.hid hn
  clear h hl hn
  go_enter Try.func53, Try.ntmps53
  go_wp2_with (first
    | (refine wpList_appB _ rfl (.tmp 3) (.tmp 4) rfl Try.underlying22 hi0 hz0 hz1 hz2 rfl E0.out rfl I0.out rfl (by have := HN.out; simp; omega) B0.out.size ?_
       intro v1 w1 hv1 hb1 hg1 hat1
       have V1 : Hid (OwB w1 w.heap.size v1 l) := Lib.hid hv1
       have B1 := Lib.hid (B0.out.trans hb1)
       clear hv1 hb1 hg1 hat1)
    | (refine wpList_appB _ rfl (.tmp 5) (.tmp 6) rfl Try.underlying22 hi0 hz0 hz1 hz2 rfl (V1.out.alloc _) rfl (isB_one _ 77 (by decide)) rfl (by rw [HL.out]; have := HN.out; omega) (by have := B1.out.size; simp; omega) ?_
       intro v2 w2 hv2 hb2 hg2 hat2
       have B2 : Hid (Below w.heap.size w w2) := Lib.hid ((B1.out.alloc B1.out.size _).trans hb2)
       obtain ⟨g, d, rfl, hg3, hg4, hg5, hg6, hg7⟩ := hv2.form (by simp)
       rw [List.length_append, HL.out, List.length_singleton] at hv2 hg5 hg7 ⊢
       have L2 : Hid (LentB w2 g n d l) := Lib.hid ⟨by
         have h1 := (hv2.isB (by simp [HL.out])).take (m := n) (by omega)
         rwa [List.take_append_of_le_length (by rw [HL.out]; exact Nat.le_refl _), List.take_of_length_le (by rw [HL.out]; exact Nat.le_refl _)] at h1, by
         have := hg7 n (by omega)
         rw [this]
         have e : at' (l ++ [77]) n = 77 := by rw [at', List.getElem?_append_right (by rw [HL.out]; exact Nat.le_refl _), HL.out, Nat.sub_self]; rfl
         rw [e]; rfl, hv2.ty (by simp), by omega⟩
       have hsl := sl_upto w2 (some ⟨g, 0, none⟩) (n + 1) d n (by omega)
       clear hv2 hb2 hg2 hat2 hg3 hg4 hg5 hg6 hg7))
  go_ret
  exact ⟨g, d, rfl, L2.out, B2.out⟩
set_option maxRecDepth 100000 in
set_option maxHeartbeats 2000000 in
theorem kept_any (A : Option Addr) (g n d c : Nat) (l : List Nat) (w : World) (h : LentB w g n d l) (hi : IsB w A n c l) (hn : n ≤ 1000000) :
    Calls Try.prog 55 #[.slice (some ⟨g, 0, none⟩) n d, .slice A n c] w fun e w' => e = .returned (.bool true) ∧ Below w.heap.size w w' := by
  have hst1 : (convert 22 9 (.slice (some ⟨g, 0, none⟩) n d)).run Try.prog w = .ok (.string (strOf l)) w := run_str h.isB _ _ _ Try.underlying22 Try.underlying5 Try.underlying9
  have hst2 : (convert 22 9 (.slice A n c)).run Try.prog w = .ok (.string (strOf l)) w := run_str hi _ _ _ Try.underlying22 Try.underlying5 Try.underlying9
  have hsl : (Instr.sliceAt 22 (.slice (some ⟨g, 0, none⟩) n d) none (some (.int .i64 ((n : Int) + 1))) none).run Try.prog w = .ok (.slice (some ⟨g, 0, none⟩) (n + 1) d) w := sl_upto w (some ⟨g, 0, none⟩) n d (n + 1) (by have := h.cap; omega)
  have hm := h.mark
  have hnn : (n : Int) ≤ 1000000 := by omega
  clear h hi
  go_enter Try.func55, Try.ntmps55
  go_wp2_with fail
  go_ret
  exact ⟨rfl, Below.refl _ _⟩
/-- two wrapped keys, in memory -/
theorem two_heldB (w : World) (x y : Array Value) : HdB ((w.alloc (.cells x 67)).alloc (.cells y 67)) w.heap.size x ∧ HdB ((w.alloc (.cells x 67)).alloc (.cells y 67)) (w.heap.size + 1) y ∧ Below w.heap.size w ((w.alloc (.cells x 67)).alloc (.cells y 67)) := by
  refine ⟨HdB.ab (w := w.alloc (.cells x 67)) (heap_alloc_new w _) ((Below.refl _ _).alloc (Nat.le_refl _) _), ?_, ((Below.refl _ _).alloc (Nat.le_refl _) _).alloc (Nat.le_of_lt (by simp)) _⟩
  have := heap_alloc_new (w.alloc (.cells x 67)) (.cells y 67)
  rw [show (w.alloc (.cells x 67)).heap.size = w.heap.size + 1 by simp] at this
  exact this
set_option maxRecDepth 100000 in
set_option maxHeartbeats 2000000 in
theorem rsame_any (aA bA : Option Addr) (an ac bn bc g1 c1 g2 c2 : Nat) (la lb : List Nat) (w : World) (ia : IsB w aA an ac la) (ib : IsB w bA bn bc lb) :
    Calls Try.prog 56 #[.agg #[.int .u16 (g1 : Int), .int .u64 (c1 : Int), .slice aA an ac], .agg #[.int .u16 (g2 : Int), .int .u64 (c2 : Int), .slice bA bn bc]] w fun e w' => e = .returned (.bool (decide (g1 = g2) && decide (c1 = c2) && decide (la = lb))) ∧ Below w.heap.size w w' := by
  obtain ⟨r1, r2, b0⟩ := two_heldB w #[.int .u16 (g1 : Int), .int .u64 (c1 : Int), .slice aA an ac] #[.int .u16 (g2 : Int), .int .u64 (c2 : Int), .slice bA bn bc]
  obtain ⟨x0, x1, x2⟩ := r1.cells
  obtain ⟨y0, y1, y2⟩ := r2.cells
  have B0 := Lib.hid b0
  have i1 := ia.ab b0
  have i2 := ib.ab b0
  have hst1 := run_str i1 22 5 9 Try.underlying22 Try.underlying5 Try.underlying9
  have hst2 := run_str i2 22 5 9 Try.underlying22 Try.underlying5 Try.underlying9
  have heq := str_eq ia.2 ib.2
  have hg : ((g1 : Int) == (g2 : Int)) = decide (g1 = g2) := by by_cases h : g1 = g2 <;> simp [h] <;> omega
  have hc : ((c1 : Int) == (c2 : Int)) = decide (c1 = c2) := by by_cases h : c1 = c2 <;> simp [h] <;> omega
  generalize decide (g1 = g2) = qg at *
  generalize decide (c1 = c2) = qc at *
  generalize decide (la = lb) = ql at *
  clear r1 r2 b0 i1 i2 ia ib
  cases qg <;> cases qc <;> cases ql
  all_goals
    go_enter Try.func56, Try.ntmps56
    go_wp2_with fail
    go_ret
    exact ⟨by first | rfl | simp [heq], B0.out⟩
def k0H : List Nat := [48, 49, 50, 51, 52, 53, 54, 55, 56, 57, 97, 98, 99, 100, 101, 102]
theorem k0H_byt : Byt k0H := by unfold Byt k0H; decide
theorem k0H_str : ((strOf k0H).toList == [48, 49, 50, 51, 52, 53, 54, 55, 56, 57, 97, 98, 99, 100, 101, 102]) = true := by decide +kernel
theorem wrap_len (root : List Nat) (ten gn cm : Nat) (key : List Nat) : (wrapA root ten gn cm key).length = key.length + 16 := sealA_len _ _ _ _
theorem unwrap_wrap {root : List Nat} (ten gn cm : Nat) {key : List Nat} (h : key.length = 16) : unwrapA root ten gn cm (wrapA root ten gn cm key) = (key, 0) := by
  unfold unwrapA wrapA
  exact open_seal (gokH ten gn cm) (by rw [besH_len]; decide) (by omega)
set_option maxRecDepth 100000 in
set_option maxHeartbeats 4000000 in
theorem known22_any (w : World) : Calls Try.prog 52 #[] w fun e w' => e = .returned (.bool true) ∧ Below w.heap.size w w' := by
  have hmk : (Instr.makeSlice 22 (.int .i64 32) (.int .i64 32)).run Try.prog w = .ok (.slice (some ⟨w.heap.size, 0, none⟩) 32 32) (w.alloc (.cells (bts (zeros 32)) 5)) := make_u8 32 32 (by decide) (by decide) w
  have hcv : (convert 22 22 (.slice (some ⟨w.heap.size + 1, 0, none⟩) 16 16)).run Try.prog ((w.alloc (.cells (bts (zeros 32)) 5)).alloc (.cells #[Value.int .u8 48, Value.int .u8 49, Value.int .u8 50, Value.int .u8 51, Value.int .u8 52, Value.int .u8 53, Value.int .u8 54, Value.int .u8 55, Value.int .u8 56, Value.int .u8 57, Value.int .u8 97, Value.int .u8 98, Value.int .u8 99, Value.int .u8 100, Value.int .u8 101, Value.int .u8 102] 5)) = .ok (.slice (some ⟨w.heap.size + 1, 0, none⟩) 16 16) ((w.alloc (.cells (bts (zeros 32)) 5)).alloc (.cells #[Value.int .u8 48, Value.int .u8 49, Value.int .u8 50, Value.int .u8 51, Value.int .u8 52, Value.int .u8 53, Value.int .u8 54, Value.int .u8 55, Value.int .u8 56, Value.int .u8 57, Value.int .u8 97, Value.int .u8 98, Value.int .u8 99, Value.int .u8 100, Value.int .u8 101, Value.int .u8 102] 5 (16, 17))) :=
    Joins.run_convert_bytes_const_at (w.alloc (.cells (bts (zeros 32)) 5)) 22 5 #[Value.int .u8 48, Value.int .u8 49, Value.int .u8 50, Value.int .u8 51, Value.int .u8 52, Value.int .u8 53, Value.int .u8 54, Value.int .u8 55, Value.int .u8 56, Value.int .u8 57, Value.int .u8 97, Value.int .u8 98, Value.int .u8 99, Value.int .u8 100, Value.int .u8 101, Value.int .u8 102] 16 16 (w.heap.size + 1) (by simp) Try.underlying22 Try.underlying5
  have z0 : IsB (w.alloc (.cells (bts (zeros 32)) 5)) (some ⟨w.heap.size, 0, none⟩) 32 32 (zeros 32) := isB_whole (Bk.newAt _ (zeros 32) rfl) (byt_zeros 32) (zeros_len 32) (by decide)
  have Z0 : Hid (IsB ((w.alloc (.cells (bts (zeros 32)) 5)).alloc (.cells #[Value.int .u8 48, Value.int .u8 49, Value.int .u8 50, Value.int .u8 51, Value.int .u8 52, Value.int .u8 53, Value.int .u8 54, Value.int .u8 55, Value.int .u8 56, Value.int .u8 57, Value.int .u8 97, Value.int .u8 98, Value.int .u8 99, Value.int .u8 100, Value.int .u8 101, Value.int .u8 102] 5 (16, 17))) (some ⟨w.heap.size, 0, none⟩) 32 32 (zeros 32)) := Lib.hid (z0.alloc _)
  have K0 : Hid (IsB ((w.alloc (.cells (bts (zeros 32)) 5)).alloc (.cells #[Value.int .u8 48, Value.int .u8 49, Value.int .u8 50, Value.int .u8 51, Value.int .u8 52, Value.int .u8 53, Value.int .u8 54, Value.int .u8 55, Value.int .u8 56, Value.int .u8 57, Value.int .u8 97, Value.int .u8 98, Value.int .u8 99, Value.int .u8 100, Value.int .u8 101, Value.int .u8 102] 5 (16, 17))) (some ⟨w.heap.size + 1, 0, none⟩) 16 16 k0H) := Lib.hid (isB_marked (t := 5) (fr := (16, 17)) (by
    have := heap_alloc_new (w.alloc (.cells (bts (zeros 32)) 5)) (.cells #[Value.int .u8 48, Value.int .u8 49, Value.int .u8 50, Value.int .u8 51, Value.int .u8 52, Value.int .u8 53, Value.int .u8 54, Value.int .u8 55, Value.int .u8 56, Value.int .u8 57, Value.int .u8 97, Value.int .u8 98, Value.int .u8 99, Value.int .u8 100, Value.int .u8 101, Value.int .u8 102] 5 (16, 17))
    rw [show (w.alloc (.cells (bts (zeros 32)) 5)).heap.size = w.heap.size + 1 by simp] at this
    exact this) k0H_byt rfl (by decide))
  have B0 : Hid (Below w.heap.size w ((w.alloc (.cells (bts (zeros 32)) 5)).alloc (.cells #[Value.int .u8 48, Value.int .u8 49, Value.int .u8 50, Value.int .u8 51, Value.int .u8 52, Value.int .u8 53, Value.int .u8 54, Value.int .u8 55, Value.int .u8 56, Value.int .u8 57, Value.int .u8 97, Value.int .u8 98, Value.int .u8 99, Value.int .u8 100, Value.int .u8 101, Value.int .u8 102] 5 (16, 17)))) := Lib.hid (((Below.refl _ _).alloc (Nat.le_refl _) _).alloc (Nat.le_of_lt (by simp)) _)
  have hwr := fun W h1 h2 => wrap_ok (some ⟨w.heap.size, 0, none⟩) (some ⟨w.heap.size + 1, 0, none⟩) 32 16 5 2 9 (zeros 32) k0H W h1 h2 (by decide) (by decide) (by decide)
  have hun := fun A c W h1 h2 => unwrap_any (some ⟨w.heap.size, 0, none⟩) A 32 32 32 c 5 2 9 (zeros 32) (wrapA (zeros 32) 5 2 9 k0H) W h1 h2 (by decide) (by decide) (by decide)
  have hl := wrap_len (zeros 32) 5 2 9 k0H
  rw [if_pos ⟨rfl, rfl⟩, unwrap_wrap (root := zeros 32) 5 2 9 (key := k0H) rfl] at hun
  rw [show k0H.length + 16 = 32 from rfl] at hl
  generalize wrapA (zeros 32) 5 2 9 k0H = S at *
  have HWR : Hid (∀ W, IsB W (some ⟨w.heap.size, 0, none⟩) 32 32 (zeros 32) → IsB W (some ⟨w.heap.size + 1, 0, none⟩) 16 16 k0H → Calls Try.prog 54 #[.slice (some ⟨w.heap.size, 0, none⟩) 32 32, .int .u32 5, .int .u16 2, .int .u64 9, .slice (some ⟨w.heap.size + 1, 0, none⟩) 16 16] W fun e w' => ∃ v, e = .returned (.tuple #[.agg #[.int .u16 2, .int .u64 9, v], .int .i64 0]) ∧ OwB w' W.heap.size v S ∧ Below W.heap.size W w') := Lib.hid hwr
  have HUN : Hid (∀ A c W, IsB W (some ⟨w.heap.size, 0, none⟩) 32 32 (zeros 32) → IsB W A 32 c S → Calls Try.prog 57 #[.slice (some ⟨w.heap.size, 0, none⟩) 32 32, .int .u32 5, .agg #[.int .u16 2, .int .u64 9, .slice A 32 c]] W (OutB W k0H 0)) := Lib.hid hun
  have HL := Lib.hid hl
  clear hwr hun hl z0
  go_enter Try.func52, Try.ntmps52
  go_wp2_with fail
  refine (HWR.out _ Z0.out K0.out).mono ?_
  rintro e w1 ⟨v, rfl, hv, hb⟩
  obtain ⟨A1, c1, rfl, -⟩ := hv.shape
  rw [HL.out] at hv ⊢
  have S1 := Lib.hid (hv.isB HL.out)
  have Z1 := Lib.hid (Z0.out.ab hb)
  have B1 := Lib.hid (below_tr B0.out hb B0.out.size)
  clear hv hb HWR Z0 K0 B0 hmk hcv
  go_wp2_with ((with_reducible refine wpList_store3 (o := ⟨none, .store _ (.tmp 2) (.tmp 12), _, _, _, _⟩) rfl (.tmp 2) (.tmp 12) ?_ w1.heap.size ?_ #[.int .u16 2, .int .u64 9, .slice A1 32 c1] ?_ ?_ ?_ (cs := #[.int .u16 0, .int .u64 0, .slice none 0 0]) ?_ ?_ ?_)
               · rfl
               · rfl
               · rfl
               · rfl
               · (simp [Value.oneCell'])
               · exact heap_alloc_new w1 _
               · rfl
               intro w2 hw2
               have R2 : HdB w2 w1.heap.size #[.int .u16 2, .int .u64 9, .slice A1 32 c1] := by rw [hw2]; exact HdB.row (w := w1.alloc (.cells #[.int .u16 0, .int .u64 0, .slice none 0 0] 67)) (heap_alloc_new w1 _) _
               have hb2 : Below w1.heap.size w1 w2 := by rw [hw2]; exact Below.row ((Below.refl _ _).alloc (Nat.le_refl _) _) (Nat.le_refl _) _
               have B2 := Lib.hid (below_tr B1.out hb2 B1.out.size)
               have S2 := Lib.hid (S1.out.ab hb2)
               have Z2 := Lib.hid (Z1.out.ab hb2)
               obtain ⟨p0, p1, p2⟩ := R2.cells
               have H2 := Lib.hid R2
               clear hw2 hb2)
  refine (HUN.out _ _ _ Z2.out S2.out).mono ?_
  rintro e w3 ⟨v, rfl, hv, hb⟩
  obtain ⟨A3, c3, rfl, -⟩ := hv.shape
  have K3 := hv.isB rfl
  obtain ⟨r0, r1, r2⟩ := (H2.out.ab hb).cells
  have B3 := Lib.hid (below_tr B2.out hb B2.out.size)
  have hst := run_str K3 22 5 9 Try.underlying22 Try.underlying5 Try.underlying9
  have hk := k0H_str
  clear hv hb p0 p1 p2
  go_wp2_with fail
  go_ret
  exact ⟨rfl, B3.out⟩
end Go.Proofs.Ytpofndciepoooaa
