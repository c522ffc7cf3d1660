/-
  WALKS: the reference's May, TagOf, Seal and Open (ref06).
  FOR THE LAWS of layer 6: what is known; few; GcmSeals, GcmOpens: the walks.
-/
import Derived.Test.YtakgebbeknfplaaGreatGhV
import Derived.Test.YtakgebbeknfplaaGreatCtL
import Derived.Test.YtakgebbeknfplaaGreatGcT
import Derived.Test.YtakgebbeknfplaaGreatWid3
namespace Go.Proofs.YtakgebbeknfplaaGreat
open Go.RowKit
set_option linter.unusedVariables false

set_option maxRecDepth 100000 in
set_option maxHeartbeats 1000000 in
theorem rmay_any (kA nA : Option Addr) (kn kc nn nc : Nat) (key nonce : List Nat) (w : World) (lk : key.length = kn) (ln : nonce.length = nn) :
    Calls Tryz.prog 235 #[.slice kA kn kc, .slice nA nn nc] w fun e w' => e = .returned (.bool (decide (GOk key nonce))) ∧ w = w' := by
  by_cases hk : kn = 16 ∨ kn = 32
  · have hd : decide (GOk key nonce) = decide ((nn : Int) = 12) := by
      rw [decide_eq_decide]
      constructor
      · intro h; have := h.2; omega
      · intro h; exact ⟨by omega, by omega⟩
    rw [hd]
    have hbe : ((nn : Int) == 12) = decide ((nn : Int) = 12) := by
      by_cases h : (nn : Int) = 12 <;> simp [h]
    have HK := Lib.hid hk
    clear hk lk ln hd
    go_enter Tryz.func235, Tryz.ntmps235
    go_wp2_with fail
    refine (may_yes kA kn kc _ HK.out).mono ?_
    rintro e w' ⟨rfl, rfl⟩
    go_wp2_with fail
    go_ret
    exact ⟨by first | rfl | (rw [hbe]) | simp, rfl⟩
  · have h1 : kn ≠ 16 := fun h => hk (.inl h)
    have h2 : kn ≠ 32 := fun h => hk (.inr h)
    have hd : decide (GOk key nonce) = false := decide_eq_false (fun h => by have := h.1; omega)
    rw [hd]
    clear hk lk ln hd
    go_enter Tryz.func235, Tryz.ntmps235
    go_wp2_with fail
    refine (may_no kA kn kc _ h1 h2).mono ?_
    rintro e w' ⟨rfl, rfl⟩
    go_wp2_with fail
    go_ret
    exact ⟨rfl, rfl⟩
set_option maxRecDepth 100000 in
set_option maxHeartbeats 4000000 in
theorem rtag_any (kA nA aA bA : Option Addr) (kn kc nc an ac bn bc : Nat) (key nonce aad b : List Nat) (w : World) (hK : KeyOk key) (ik : IsB w kA kn kc key) (inn : IsB w nA 12 nc nonce) (ia : IsB w aA an ac aad) (ib : IsB w bA bn bc b) (ha : an ≤ 1000000) (hb : bn ≤ 1000000) :
    Calls Tryz.prog 236 #[.slice kA kn kc, .slice nA 12 nc, .slice aA an ac, .slice bA bn bc] w fun e w' => ∃ v, e = .returned v ∧ OwB w' w.heap.size v (tagA key nonce aad b) ∧ Below w.heap.size w w' := by
  obtain ⟨i0, hi0, hz0, hz1, hz2⟩ := info_parts infoU8
  have lk := ik.len
  have lf : (firstC nonce).length = 16 := firstC_len inn.len
  have bf : Byt (firstC nonce) := firstC_byt inn.2
  have henc : ∀ (x : List Nat) (hx : Byt x) (lx : x.length = 16) W (h : IsB W kA kn kc key), Calls Tryz.prog 279 #[.slice kA kn kc, .agg (bts x)] W fun e w' => e = .returned (.agg (bts (encA key x))) ∧ Below W.heap.size W w' :=
    fun x hx lx W h => rEnc_any (key.length / 4) (key.length / 4 + 6) kn key x kA kc W hK.four rfl (by rw [← lk]; exact hK.len) h hx lx
  have e0B := encA_byt hK ik.2 z16_byt
  have e0L := encA_len key z16
  have e1B := encA_byt hK ik.2 bf
  have e1L := encA_len key (firstC nonce)
  have htag : tagA key nonce aad b = xorL (sumB (encA key z16) aad b) (encA key (firstC nonce)) := rfl
  rw [htag]
  have hen0 := fun W h => henc z16 z16_byt rfl W h
  have hen1 := fun W h => henc (firstC nonce) bf lf W h
  have hfir := fun W h => rFirst_any nA nc nonce W h
  generalize encA key z16 = E0 at *
  generalize encA key (firstC nonce) = E1 at *
  generalize firstC nonce = F at *
  have LF := Lib.hid lf
  have BF := Lib.hid bf
  have HEN0 := Lib.hid hen0
  have HEN1 := Lib.hid hen1
  have HFIR := Lib.hid hfir
  have HE0 := Lib.hid e0B
  have HL0 := Lib.hid e0L
  have HE1 := Lib.hid e1B
  have HL1 := Lib.hid e1L
  have IK := Lib.hid ik
  have IN := Lib.hid inn
  have IA := Lib.hid ia
  have IB := Lib.hid ib
  have HA := Lib.hid ha
  have HB := Lib.hid hb
  clear lf bf henc hen0 hen1 hfir e0B e0L e1B e1L ik inn ia ib ha hb htag lk hK
  go_enter Tryz.func236, Tryz.ntmps236
  go_wp2_with fail
  refine (HEN0.out w IK.out).mono ?_
  rintro e w1 ⟨rfl, hb1⟩
  have B1 := Lib.hid hb1
  clear hb1 HEN0
  go_wp2_with (first
    | ((with_reducible refine wpList_storeN (l := z16) (o := ⟨none, .store _ (.tmp 9) (.tmp 15), _, _, _, _⟩) rfl 365 (.tmp 9) (.tmp 15) ?_ w1.heap.size ?_ E0 ?_ (t := 365) ?_ ?_ ?_ ?_)
       · rfl
       · rfl
       · rfl
       · exact Bk.newAt _ z16 rfl
       · (rw [HL0.out]; exact sz16)
       · (rw [HL0.out]; rfl)
       intro w2 hw2
       have G2 : Hid (Bk w2 w1.heap.size 365 E0) := Lib.hid (by rw [hw2]; exact (show Bk (w1.alloc (.cells (bts z16) 365)) w1.heap.size 365 z16 from Bk.newAt _ z16 rfl).row _)
       have B2 : Hid (Below w.heap.size w w2) := Lib.hid (by rw [hw2]; exact Below.row (B1.out.alloc B1.out.size _) B1.out.size _)
       clear hw2)
    | (refine wpList_loadB (l := E0) (o := ⟨some 16, _, _, _, _, _⟩) rfl 365 (.tmp 9) rfl w1.heap.size rfl (t := 365) ?_ Tryz.underlying365 (by rw [HL0.out]; exact sz16) ?_
       · exact G2.out))
  refine (rsum_any E0 aA bA an ac bn bc aad b w2 HE0.out HL0.out (IA.out.ab B2.out) (IB.out.ab B2.out) HA.out HB.out).mono ?_
  rintro e w3 ⟨rfl, hb3⟩
  have SB := sumB_byt E0 aad b
  have SL := sumB_len E0 aad b
  generalize hSS : sumB E0 aad b = S at *
  have HSS := Lib.hid hSS
  clear hSS
  have HSB := Lib.hid SB
  have HSL := Lib.hid SL
  have B3 := Lib.hid (below_tr B2.out hb3 B2.out.size)
  clear hb3 B2 SB SL G2 B1
  go_wp2_with ((with_reducible refine wpList_storeN (l := z16) (o := ⟨none, .store _ (.tmp 10) (.tmp 19), _, _, _, _⟩) rfl 365 (.tmp 10) (.tmp 19) ?_ w3.heap.size ?_ S ?_ (t := 365) ?_ ?_ ?_ ?_)
               · rfl
               · rfl
               · rfl
               · exact Bk.newAt _ z16 rfl
               · (rw [HSL.out]; exact sz16)
               · (rw [HSL.out]; rfl)
               intro w4 hw4
               have S4 : Hid (Bk w4 w3.heap.size 365 S) := Lib.hid (by rw [hw4]; exact (show Bk (w3.alloc (.cells (bts z16) 365)) w3.heap.size 365 z16 from Bk.newAt _ z16 rfl).row _)
               have B4 : Hid (Below w.heap.size w w4) := Lib.hid (by rw [hw4]; exact Below.row (B3.out.alloc B3.out.size _) B3.out.size _)
               clear hw4)
  have G0 : Hid (w.heap.size ≤ w3.heap.size) := Lib.hid B3.out.size
  clear B3
  generalize w3.heap.size = g at *
  refine wp_free2 [⟨20, IsR (.agg (bts S)), [], false⟩, ⟨21, IsR (.slice kA kn kc), [], false⟩, ⟨22, IsR (.slice nA 12 nc), [], false⟩, ⟨23, IsR (.agg (bts F)), [2], false⟩, ⟨24, IsR (.agg (bts E1)), [1, 3], false⟩, ⟨25, IsR (.agg (bts (xorL S E1))), [0, 4], false⟩] (by kernel_rfl) (by kernel_rfl) rfl rfl rfl ⟨?_, ?_, ?_, ?_, ?_, ?_, trivial⟩ ?_
  · exact ⟨rfl, rfl, IsR.mono _, fun a W hA hb _ => yields_value _ (exec_loadB 365 (.tmp 10) rfl g (by rw [hA.eval (by simp)]; rfl) (S4.out.ab hb) Tryz.underlying365 (by rw [HSL.out]; exact sz16)) rfl⟩
  · refine ⟨rfl, rfl, IsR.mono _, fun a W hA hb hd => yields_value _ ?_ rfl⟩
    have h0 : a.tmps[0]?.getD undef = .slice kA kn kc := (eval_get a 0).trans ((hA.eval (by simp)).trans rfl)
    go_simp
  · refine ⟨rfl, rfl, IsR.mono _, fun a W hA hb hd => yields_value _ ?_ rfl⟩
    have h0 : a.tmps[1]?.getD undef = .slice nA 12 nc := (eval_get a 1).trans ((hA.eval (by simp)).trans rfl)
    go_simp
  · refine ⟨rfl, rfl, IsR.mono _, fun a W hA hb hd => ?_⟩
    have h0 : a.tmps[22]?.getD undef = .slice nA 12 nc := (eval_get a 22).trans (hd 2 (by simp) _ rfl)
    exact yields_call 282 #[.slice nA 12 nc] (by go_simp) ((HFIR.out W ((IN.out.ab B4.out).ab hb)).mono fun e W' hh => ⟨_, hh.1, rfl, hh.2⟩)
  · refine ⟨rfl, rfl, IsR.mono _, fun a W hA hb hd => ?_⟩
    have h0 : a.tmps[21]?.getD undef = .slice kA kn kc := (eval_get a 21).trans (hd 1 (by simp) _ rfl)
    have h1 : a.tmps[23]?.getD undef = .agg (bts F) := (eval_get a 23).trans (hd 3 (by simp) _ rfl)
    exact yields_call 279 #[.slice kA kn kc, .agg (bts F)] (by go_simp) ((HEN1.out W ((IK.out.ab B4.out).ab hb)).mono fun e W' hh => ⟨_, hh.1, rfl, hh.2⟩)
  · refine ⟨rfl, rfl, IsR.mono _, fun a W hA hb hd => ?_⟩
    have h0 : a.tmps[20]?.getD undef = .agg (bts S) := (eval_get a 20).trans (hd 0 (by simp) _ rfl)
    have h1 : a.tmps[24]?.getD undef = .agg (bts E1) := (eval_get a 24).trans (hd 4 (by simp) _ rfl)
    exact yields_call 281 #[.agg (bts S), .agg (bts E1)] (by go_simp) ((add4_any S E1 HSB.out HSL.out HE1.out HL1.out W).mono fun e W' hh => ⟨_, hh.1, rfl, hh.2⟩)
  · intro vs W hR hF hb
    have e20 : vs 20 = .agg (bts S) := hR 0 _ rfl
    have e21 : vs 21 = .slice kA kn kc := hR 1 _ rfl
    have e22 : vs 22 = .slice nA 12 nc := hR 2 _ rfl
    have e23 : vs 23 = .agg (bts F) := hR 3 _ rfl
    have e24 : vs 24 = .agg (bts E1) := hR 4 _ rfl
    have e25 : vs 25 = .agg (bts (xorL S E1)) := hR 5 _ rfl
    have TL : (xorL S E1).length = 16 := by rw [xorL_len, HSL.out, HL1.out]; rfl
    have TB : Byt (xorL S E1) := xorL_byt HSB.out HE1.out
    generalize hTT : xorL S E1 = T at *
    have HTT := Lib.hid hTT
    clear hTT
    have HTL := Lib.hid TL
    have HTB := Lib.hid TB
    simp only [List.map_cons, List.map_nil, List.foldl_cons, List.foldl_nil, List.length_cons, List.length_nil, List.drop_succ_cons, List.drop_zero, Act.put, List.setIfInBounds_toArray, List.set_cons_zero, List.set_cons_succ, e20, e21, e22, e23, e24, e25]
    have S5 := Lib.hid (S4.out.ab hb)
    have B5 := Lib.hid (below_tr B4.out hb B4.out.size)
    clear hR hF hb e20 e21 e22 e23 e24 e25 S4 B4 TL TB HEN1 HFIR
    refine wpList_storeN (l := S) rfl 365 (.tmp 10) (.tmp 25) rfl g rfl T rfl (t := 365) S5.out (by rw [HTL.out]; exact sz16) (by rw [HTL.out, HSL.out]) ?_
    intro W1 hW1
    have T6 : Hid (Bk W1 g 365 T) := Lib.hid (by rw [hW1]; exact S5.out.row _)
    have B6 : Hid (Below w.heap.size w W1) := Lib.hid (by rw [hW1]; exact Below.row B5.out G0.out _)
    clear hW1 S5 B5
    go_wp2_with fail
    go_loopw [11, 12] (fun v j wr => ∃ k : Nat, k ≤ 16 ∧ j = .int .i64 k ∧ OwB wr (g + 1) v (T.take k) ∧ Bk wr g 365 T ∧ Below w.heap.size w wr) (fun _ j _ => 16 - (intOf j).toNat)
    case atStart => exact ⟨0, Nat.zero_le _, rfl, OwB.nil _ _, T6.out, B6.out⟩
    case round =>
      obtain ⟨k, hk, rfl, ho, ht, hb⟩ := hrel
      clear T6 B6
      by_cases hlt : k < 16
      · have hki : (k : Int) < 16 := by omega
        have hcl := ht.cell (k := k) (by rw [HTL.out]; exact hlt)
        rw [show T[k]?.getD 0 = at' T k from rfl] at hcl
        have hts := take_snoc' (l := T) (p := k) (by rw [HTL.out]; exact hlt)
        have hv := HTB.out.at' k
        have hlen : (T.take k).length = k := by rw [List.length_take, HTL.out]; omega
        generalize at' T k = x at *
        have HO := Lib.hid ho
        have HT := Lib.hid ht
        have HBB := Lib.hid hb
        have HS := Lib.hid hts
        have HLE := Lib.hid hlen
        have HV := Lib.hid hv
        clear ho ht hb hts hlen hv
        go_wp2_with (refine wpList_appB _ rfl (.tmp 30) (.tmp 34) rfl Tryz.underlying22 hi0 hz0 hz1 hz2 rfl (HO.out.alloc _) rfl (isB_one _ x HV.out) rfl (by rw [HLE.out]; omega) (by have := HT.out.lt; simp; omega) ?_
                     intro v1 w2 hv1 hb2 hg2 hat2
                     have T2 : Hid (Bk w2 g 365 T) := Lib.hid ((HT.out.alloc _).below hb2 (by omega))
                     have B2 : Hid (Below w.heap.size w w2) := Lib.hid ((HBB.out.alloc HBB.out.size _).trans (hb2.mono (by have := G0.out; omega)))
                     have V2 : Hid (OwB w2 (g + 1) v1 (T.take (k + 1))) := Lib.hid (by rw [HS.out]; exact hv1)
                     clear hv1 hb2 hg2 hat2)
        go_roundw
        case rel => exact ⟨k + 1, by omega, by go_num, V2.out, T2.out, B2.out⟩
        case measure => simp [intOf]; omega
      · obtain rfl : k = 16 := by omega
        rw [List.take_of_length_le (by rw [HTL.out]; exact Nat.le_refl _)] at ho
        have HO := Lib.hid (ho.lower (B' := w.heap.size) (by have := G0.out; omega))
        have HBB := Lib.hid hb
        clear ho hb ht
        go_wp2_with fail
        go_ret
        exact ⟨_, rfl, by rw [HSS.out, HTT.out]; exact HO.out, HBB.out⟩

set_option maxRecDepth 100000 in
set_option maxHeartbeats 1000000 in
theorem ropen_arg (kA nA aA tA : Option Addr) (kn kc nn nc an ac tn tc : Nat) (key nonce : List Nat) (w : World) (hG : ¬ GOk key nonce) (lk : key.length = kn) (ln : nonce.length = nn) :
    Calls Tryz.prog 190 #[.slice kA kn kc, .slice nA nn nc, .slice aA an ac, .slice tA tn tc] w (OutB w [] 2) := by
  have hop := rmay_any kA nA kn kc nn nc key nonce w lk ln
  rw [decide_eq_false hG] at hop
  have HOP := Lib.hid hop
  clear hop lk ln hG
  go_enter Tryz.func190, Tryz.ntmps190
  go_wp2_with fail
  refine HOP.out.mono ?_
  rintro e w' ⟨rfl, rfl⟩
  go_wp2_with fail
  go_ret2
  exact OutB.refused 2 (Below.refl _ _)
set_option maxRecDepth 100000 in
set_option maxHeartbeats 1000000 in
theorem ropen_long (kA nA aA tA : Option Addr) (kn kc nn nc an ac tn tc : Nat) (key nonce : List Nat) (w : World) (hG : GOk key nonce) (lk : key.length = kn) (ln : nonce.length = nn) (h : 65536 < an ∨ 65552 < tn) :
    Calls Tryz.prog 190 #[.slice kA kn kc, .slice nA nn nc, .slice aA an ac, .slice tA tn tc] w (OutB w [] 3) := by
  have hop := rmay_any kA nA kn kc nn nc key nonce w lk ln
  rw [decide_eq_true hG] at hop
  have HOP := Lib.hid hop
  clear hop lk ln hG
  refine two_ways (decide (65536 < (an : Int))) (decide (65552 < (tn : Int))) _ (fun h1 => ?_) (fun h1 h2 => ?_) (by simp only [decide_eq_true_eq]; omega)
  all_goals
    clear h
    go_enter Tryz.func190, Tryz.ntmps190
    go_wp2_with fail
    refine HOP.out.mono ?_
    rintro e w' ⟨rfl, rfl⟩
    go_wp2_with fail
    go_ret2
    exact OutB.refused 3 (Below.refl _ _)
set_option maxRecDepth 100000 in
set_option maxHeartbeats 1000000 in
theorem ropen_short (kA nA aA tA : Option Addr) (kn kc nn nc an ac tn tc : Nat) (key nonce : List Nat) (w : World) (hG : GOk key nonce) (lk : key.length = kn) (ln : nonce.length = nn) (ha : an ≤ 65536) (h : tn < 16) :
    Calls Tryz.prog 190 #[.slice kA kn kc, .slice nA nn nc, .slice aA an ac, .slice tA tn tc] w (OutB w [] 4) := by
  have hop := rmay_any kA nA kn kc nn nc key nonce w lk ln
  rw [decide_eq_true hG] at hop
  have HOP := Lib.hid hop
  have hd1 : decide (65536 < (an : Int)) = false := by simp; omega
  have hd2 : decide (65552 < (tn : Int)) = false := by simp; omega
  have hd3 : decide ((tn : Int) < 16) = true := by simp; omega
  clear hop lk ln hG h ha
  go_enter Tryz.func190, Tryz.ntmps190
  go_wp2_with fail
  refine HOP.out.mono ?_
  rintro e w' ⟨rfl, rfl⟩
  go_wp2_with fail
  go_ret2
  exact OutB.refused 4 (Below.refl _ _)
set_option maxRecDepth 100000 in
set_option maxHeartbeats 2000000 in
theorem ropen_ok (kA nA aA tA : Option Addr) (kn kc nn nc an ac n tc : Nat) (key nonce aad s : List Nat) (w : World) (hG : GOk key nonce) (ik : IsB w kA kn kc key) (inn : IsB w nA nn nc nonce) (ia : IsB w aA an ac aad) (it : IsB w tA (n + 16) tc s) (ha : an ≤ 65536) (ht : n ≤ 65536) :
    Calls Tryz.prog 190 #[.slice kA kn kc, .slice nA nn nc, .slice aA an ac, .slice tA ((n + 16 : Nat)) tc] w (OutB w (if tagA key nonce aad (s.take n) = s.drop n then cryptA key nonce (s.take n) else []) (if tagA key nonce aad (s.take n) = s.drop n then 0 else 60)) := by
  have lk := ik.len
  have ln := inn.len
  have lt := it.len
  have hcap := it.1.lenCap
  obtain rfl : nn = 12 := by rw [← ln]; exact hG.2
  have hop := rmay_any kA nA kn kc 12 nc key nonce w lk ln
  rw [decide_eq_true hG] at hop
  have itk := it.take (m := n) (by omega)
  have itd := isB_drop it (m := n) (by omega)
  rw [show n + 16 - n = 16 by omega] at itd
  have hcr := fun W h1 h2 h3 => rCrypt_any kA nA tA kn kc nc n tc key nonce (s.take n) W hG.1 h1 h2 h3 (by omega)
  have htag := fun W h1 h2 h3 h4 => rtag_any kA nA aA tA kn kc nc an ac n tc key nonce aad (s.take n) W hG.1 h1 h2 h3 h4 (by omega) (by omega)
  have htl := tagA_len key nonce aad (s.take n)
  generalize tagA key nonce aad (s.take n) = T at *
  generalize cryptA key nonce (s.take n) = C at *
  have hd1 : decide (65536 < (an : Int)) = false := by simp; omega
  have hd2' : decide (65552 < (n : Int) + 16) = false := by simp; omega
  have hnb : (n : Int) ≤ 65536 := by omega
  have hs1 := fun W => sl_upto W tA (n + 16) tc n (by omega)
  have hs2 := fun W => sl_from W tA (n + 16) tc n (by omega)
  rw [show n + 16 - n = 16 by omega] at hs2
  have HS1 := Lib.hid hs1
  have HS2 := Lib.hid hs2
  have HOP := Lib.hid hop
  have HCR := Lib.hid hcr
  have HTG := Lib.hid htag
  have HTL := Lib.hid htl
  have IK := Lib.hid ik
  have IN := Lib.hid inn
  have IA := Lib.hid ia
  have ITK := Lib.hid itk
  have ITD := Lib.hid itd
  clear hop hcr htag htl ik inn ia it lk ln lt hG ha ht itk itd hcap
  generalize s.drop n = D at *
  generalize s.take n = b at *
  by_cases hTD : T = D
  · rw [if_pos hTD, if_pos hTD]
    have hde : decide (T = D) = true := decide_eq_true hTD
    clear hTD
    go_enter Tryz.func190, Tryz.ntmps190
    go_wp2_with fail
    refine HOP.out.mono ?_
    rintro e w' ⟨rfl, rfl⟩
    go_wp2_with fail
    refine wp_wide2 [⟨29, IsR (.slice kA kn kc), [], false⟩, ⟨30, IsR (.slice nA 12 nc), [], false⟩, ⟨31, IsR (.slice aA an ac), [], false⟩, ⟨32, IsR (.slice tA (n + 16) tc), [], false⟩, ⟨33, IsR (.int .i64 (n : Int)), [], false⟩, ⟨34, IsR (.slice tA n tc), [3, 4], false⟩, ⟨35, OwR w.heap.size T, [0, 1, 2, 5], false⟩, ⟨36, IsR (.slice tA (n + 16) tc), [], false⟩, ⟨37, IsR (.int .i64 (n : Int)), [], false⟩, ⟨38, IsR (.slice (dropA tA tc n) 16 (tc - n)), [7, 8], false⟩, ⟨39, IsR (.bool true), [6, 9], false⟩] (by kernel_rfl) (by kernel_rfl) rfl rfl rfl ⟨?_, ?_, ?_, ?_, ?_, ?_, ?_, ?_, ?_, ?_, ?_, trivial⟩ ?_
    · refine ⟨rfl, rfl, IsR.mono _, fun a W hA hb hd => yields_value _ ?_ rfl⟩
      have h0 : a.tmps[0]?.getD undef = .slice kA kn kc := (eval_get a 0).trans ((hA.eval (by simp)).trans rfl)
      go_simp
    · refine ⟨rfl, rfl, IsR.mono _, fun a W hA hb hd => yields_value _ ?_ rfl⟩
      have h0 : a.tmps[1]?.getD undef = .slice nA 12 nc := (eval_get a 1).trans ((hA.eval (by simp)).trans rfl)
      go_simp
    · refine ⟨rfl, rfl, IsR.mono _, fun a W hA hb hd => yields_value _ ?_ rfl⟩
      have h0 : a.tmps[2]?.getD undef = .slice aA an ac := (eval_get a 2).trans ((hA.eval (by simp)).trans rfl)
      go_simp
    · refine ⟨rfl, rfl, IsR.mono _, fun a W hA hb hd => yields_value _ ?_ rfl⟩
      have h0 : a.tmps[3]?.getD undef = .slice tA (n + 16) tc := (eval_get a 3).trans ((hA.eval (by simp)).trans rfl)
      go_simp
    · refine ⟨rfl, rfl, IsR.mono _, fun a W hA hb hd => yields_value _ ?_ rfl⟩
      have h0 : a.tmps[10]?.getD undef = .int .i64 (n : Int) := (eval_get a 10).trans ((hA.eval (by simp)).trans rfl)
      go_simp
    · refine ⟨rfl, rfl, IsR.mono _, fun a W hA hb hd => yields_value _ ?_ rfl⟩
      have h0 : a.tmps[32]?.getD undef = .slice tA (n + 16) tc := (eval_get a 32).trans (hd 3 (by simp) _ rfl)
      have h1 : a.tmps[33]?.getD undef = .int .i64 (n : Int) := (eval_get a 33).trans (hd 4 (by simp) _ rfl)
      have h2 := HS1.out W
      go_simp
    · refine ⟨rfl, rfl, OwR.mono _ _, fun a W hA hb hd => ?_⟩
      have h0 : a.tmps[29]?.getD undef = .slice kA kn kc := (eval_get a 29).trans (hd 0 (by simp) _ rfl)
      have h1 : a.tmps[30]?.getD undef = .slice nA 12 nc := (eval_get a 30).trans (hd 1 (by simp) _ rfl)
      have h2 : a.tmps[31]?.getD undef = .slice aA an ac := (eval_get a 31).trans (hd 2 (by simp) _ rfl)
      have h3 : a.tmps[34]?.getD undef = .slice tA n tc := (eval_get a 34).trans (hd 5 (by simp) _ rfl)
      refine yields_call 236 #[.slice kA kn kc, .slice nA 12 nc, .slice aA an ac, .slice tA n tc] (by go_simp) ((HTG.out W (IK.out.ab hb) (IN.out.ab hb) (IA.out.ab hb) (ITK.out.ab hb)).mono ?_)
      rintro e W' ⟨v, rfl, hv, hb'⟩
      exact ⟨v, rfl, hv.lower hb.size, hb'⟩
    · refine ⟨rfl, rfl, IsR.mono _, fun a W hA hb hd => yields_value _ ?_ rfl⟩
      have h0 : a.tmps[3]?.getD undef = .slice tA (n + 16) tc := (eval_get a 3).trans ((hA.eval (by simp)).trans rfl)
      go_simp
    · refine ⟨rfl, rfl, IsR.mono _, fun a W hA hb hd => yields_value _ ?_ rfl⟩
      have h0 : a.tmps[10]?.getD undef = .int .i64 (n : Int) := (eval_get a 10).trans ((hA.eval (by simp)).trans rfl)
      go_simp
    · refine ⟨rfl, rfl, IsR.mono _, fun a W hA hb hd => yields_value _ ?_ rfl⟩
      have h0 : a.tmps[36]?.getD undef = .slice tA (n + 16) tc := (eval_get a 36).trans (hd 7 (by simp) _ rfl)
      have h1 : a.tmps[37]?.getD undef = .int .i64 (n : Int) := (eval_get a 37).trans (hd 8 (by simp) _ rfl)
      have h2 := HS2.out W
      go_simp
    · refine ⟨rfl, rfl, IsR.mono _, fun a W hA hb hd => ?_⟩
      have h1 : a.tmps[38]?.getD undef = .slice (dropA tA tc n) 16 (tc - n) := (eval_get a 38).trans (hd 9 (by simp) _ rfl)
      have h35 : OwB W w.heap.size (a.eval (.tmp 35)) T := hd 6 (by simp) _ rfl
      have e35 := eval_get a 35
      generalize a.eval (.tmp 35) = v0 at *
      obtain ⟨A0, c0, rfl, -, -⟩ := h35.shape
      have i35 := h35.isB rfl
      refine yields_call 188 #[.slice A0 T.length c0, .slice (dropA tA tc n) 16 (tc - n)] (by go_simp) ((same_any A0 _ T.length 16 c0 (tc - n) T D W i35 (ITD.out.ab hb)).mono ?_)
      rintro e W' ⟨rfl, rfl⟩
      exact ⟨_, rfl, by rw [hde]; rfl, Below.refl _ _⟩
    · intro vs W hR hF hb
      have e29 : vs 29 = .slice kA kn kc := hR 0 _ rfl
      have e30 : vs 30 = .slice nA 12 nc := hR 1 _ rfl
      have e31 : vs 31 = .slice aA an ac := hR 2 _ rfl
      have e32 : vs 32 = .slice tA (n + 16) tc := hR 3 _ rfl
      have e33 : vs 33 = .int .i64 (n : Int) := hR 4 _ rfl
      have e34 : vs 34 = .slice tA n tc := hR 5 _ rfl
      have e36 : vs 36 = .slice tA (n + 16) tc := hR 7 _ rfl
      have e37 : vs 37 = .int .i64 (n : Int) := hR 8 _ rfl
      have e38 : vs 38 = .slice (dropA tA tc n) 16 (tc - n) := hR 9 _ rfl
      have e39 : vs 39 = .bool true := hR 10 _ rfl
      simp only [List.map_cons, List.map_nil, List.foldl_cons, List.foldl_nil, List.length_cons, List.length_nil, List.drop_succ_cons, List.drop_zero, Act.put, List.setIfInBounds_toArray, List.set_cons_zero, List.set_cons_succ, e29, e30, e31, e32, e33, e34, e36, e37, e38, e39]
      generalize vs 35 = v35
      have B2 := Lib.hid hb
      clear hR hF hb e29 e30 e31 e32 e33 e34 e36 e37 e38 e39 HTG
      go_wp2_with fail
      refine (HCR.out W (IK.out.ab B2.out) (IN.out.ab B2.out) (ITK.out.ab B2.out)).mono ?_
      rintro e w3 ⟨v3, rfl, hv3, hb3⟩
      have V3 := Lib.hid (hv3.lower B2.out.size)
      have B3 := Lib.hid (below_tr B2.out hb3 B2.out.size)
      clear hv3 hb3
      go_wp2_with fail
      go_ret2
      exact ⟨_, rfl, V3.out, B3.out⟩
  · rw [if_neg hTD, if_neg hTD]
    have hde : decide (T = D) = false := decide_eq_false hTD
    clear hTD
    go_enter Tryz.func190, Tryz.ntmps190
    go_wp2_with fail
    refine HOP.out.mono ?_
    rintro e w' ⟨rfl, rfl⟩
    go_wp2_with fail
    refine wp_wide2 [⟨29, IsR (.slice kA kn kc), [], false⟩, ⟨30, IsR (.slice nA 12 nc), [], false⟩, ⟨31, IsR (.slice aA an ac), [], false⟩, ⟨32, IsR (.slice tA (n + 16) tc), [], false⟩, ⟨33, IsR (.int .i64 (n : Int)), [], false⟩, ⟨34, IsR (.slice tA n tc), [3, 4], false⟩, ⟨35, OwR w.heap.size T, [0, 1, 2, 5], false⟩, ⟨36, IsR (.slice tA (n + 16) tc), [], false⟩, ⟨37, IsR (.int .i64 (n : Int)), [], false⟩, ⟨38, IsR (.slice (dropA tA tc n) 16 (tc - n)), [7, 8], false⟩, ⟨39, IsR (.bool false), [6, 9], false⟩] (by kernel_rfl) (by kernel_rfl) rfl rfl rfl ⟨?_, ?_, ?_, ?_, ?_, ?_, ?_, ?_, ?_, ?_, ?_, trivial⟩ ?_
    · refine ⟨rfl, rfl, IsR.mono _, fun a W hA hb hd => yields_value _ ?_ rfl⟩
      have h0 : a.tmps[0]?.getD undef = .slice kA kn kc := (eval_get a 0).trans ((hA.eval (by simp)).trans rfl)
      go_simp
    · refine ⟨rfl, rfl, IsR.mono _, fun a W hA hb hd => yields_value _ ?_ rfl⟩
      have h0 : a.tmps[1]?.getD undef = .slice nA 12 nc := (eval_get a 1).trans ((hA.eval (by simp)).trans rfl)
      go_simp
    · refine ⟨rfl, rfl, IsR.mono _, fun a W hA hb hd => yields_value _ ?_ rfl⟩
      have h0 : a.tmps[2]?.getD undef = .slice aA an ac := (eval_get a 2).trans ((hA.eval (by simp)).trans rfl)
      go_simp
    · refine ⟨rfl, rfl, IsR.mono _, fun a W hA hb hd => yields_value _ ?_ rfl⟩
      have h0 : a.tmps[3]?.getD undef = .slice tA (n + 16) tc := (eval_get a 3).trans ((hA.eval (by simp)).trans rfl)
      go_simp
    · refine ⟨rfl, rfl, IsR.mono _, fun a W hA hb hd => yields_value _ ?_ rfl⟩
      have h0 : a.tmps[10]?.getD undef = .int .i64 (n : Int) := (eval_get a 10).trans ((hA.eval (by simp)).trans rfl)
      go_simp
    · refine ⟨rfl, rfl, IsR.mono _, fun a W hA hb hd => yields_value _ ?_ rfl⟩
      have h0 : a.tmps[32]?.getD undef = .slice tA (n + 16) tc := (eval_get a 32).trans (hd 3 (by simp) _ rfl)
      have h1 : a.tmps[33]?.getD undef = .int .i64 (n : Int) := (eval_get a 33).trans (hd 4 (by simp) _ rfl)
      have h2 := HS1.out W
      go_simp
    · refine ⟨rfl, rfl, OwR.mono _ _, fun a W hA hb hd => ?_⟩
      have h0 : a.tmps[29]?.getD undef = .slice kA kn kc := (eval_get a 29).trans (hd 0 (by simp) _ rfl)
      have h1 : a.tmps[30]?.getD undef = .slice nA 12 nc := (eval_get a 30).trans (hd 1 (by simp) _ rfl)
      have h2 : a.tmps[31]?.getD undef = .slice aA an ac := (eval_get a 31).trans (hd 2 (by simp) _ rfl)
      have h3 : a.tmps[34]?.getD undef = .slice tA n tc := (eval_get a 34).trans (hd 5 (by simp) _ rfl)
      refine yields_call 236 #[.slice kA kn kc, .slice nA 12 nc, .slice aA an ac, .slice tA n tc] (by go_simp) ((HTG.out W (IK.out.ab hb) (IN.out.ab hb) (IA.out.ab hb) (ITK.out.ab hb)).mono ?_)
      rintro e W' ⟨v, rfl, hv, hb'⟩
      exact ⟨v, rfl, hv.lower hb.size, hb'⟩
    · refine ⟨rfl, rfl, IsR.mono _, fun a W hA hb hd => yields_value _ ?_ rfl⟩
      have h0 : a.tmps[3]?.getD undef = .slice tA (n + 16) tc := (eval_get a 3).trans ((hA.eval (by simp)).trans rfl)
      go_simp
    · refine ⟨rfl, rfl, IsR.mono _, fun a W hA hb hd => yields_value _ ?_ rfl⟩
      have h0 : a.tmps[10]?.getD undef = .int .i64 (n : Int) := (eval_get a 10).trans ((hA.eval (by simp)).trans rfl)
      go_simp
    · refine ⟨rfl, rfl, IsR.mono _, fun a W hA hb hd => yields_value _ ?_ rfl⟩
      have h0 : a.tmps[36]?.getD undef = .slice tA (n + 16) tc := (eval_get a 36).trans (hd 7 (by simp) _ rfl)
      have h1 : a.tmps[37]?.getD undef = .int .i64 (n : Int) := (eval_get a 37).trans (hd 8 (by simp) _ rfl)
      have h2 := HS2.out W
      go_simp
    · refine ⟨rfl, rfl, IsR.mono _, fun a W hA hb hd => ?_⟩
      have h1 : a.tmps[38]?.getD undef = .slice (dropA tA tc n) 16 (tc - n) := (eval_get a 38).trans (hd 9 (by simp) _ rfl)
      have h35 : OwB W w.heap.size (a.eval (.tmp 35)) T := hd 6 (by simp) _ rfl
      have e35 := eval_get a 35
      generalize a.eval (.tmp 35) = v0 at *
      obtain ⟨A0, c0, rfl, -, -⟩ := h35.shape
      have i35 := h35.isB rfl
      refine yields_call 188 #[.slice A0 T.length c0, .slice (dropA tA tc n) 16 (tc - n)] (by go_simp) ((same_any A0 _ T.length 16 c0 (tc - n) T D W i35 (ITD.out.ab hb)).mono ?_)
      rintro e W' ⟨rfl, rfl⟩
      exact ⟨_, rfl, by rw [hde]; rfl, Below.refl _ _⟩
    · intro vs W hR hF hb
      have e29 : vs 29 = .slice kA kn kc := hR 0 _ rfl
      have e30 : vs 30 = .slice nA 12 nc := hR 1 _ rfl
      have e31 : vs 31 = .slice aA an ac := hR 2 _ rfl
      have e32 : vs 32 = .slice tA (n + 16) tc := hR 3 _ rfl
      have e33 : vs 33 = .int .i64 (n : Int) := hR 4 _ rfl
      have e34 : vs 34 = .slice tA n tc := hR 5 _ rfl
      have e36 : vs 36 = .slice tA (n + 16) tc := hR 7 _ rfl
      have e37 : vs 37 = .int .i64 (n : Int) := hR 8 _ rfl
      have e38 : vs 38 = .slice (dropA tA tc n) 16 (tc - n) := hR 9 _ rfl
      have e39 : vs 39 = .bool false := hR 10 _ rfl
      simp only [List.map_cons, List.map_nil, List.foldl_cons, List.foldl_nil, List.length_cons, List.length_nil, List.drop_succ_cons, List.drop_zero, Act.put, List.setIfInBounds_toArray, List.set_cons_zero, List.set_cons_succ, e29, e30, e31, e32, e33, e34, e36, e37, e38, e39]
      generalize vs 35 = v35
      have B2 := Lib.hid hb
      clear hR hF hb e29 e30 e31 e32 e33 e34 e36 e37 e38 e39 HTG
      go_wp2_with fail
      go_ret2
      exact OutB.refused 60 B2.out
/-- P6.2 of the reference -/
theorem ropen_any (kA nA aA tA : Option Addr) (kn kc nn nc an ac tn tc : Nat) (key nonce aad s : List Nat) (w : World) (ik : IsB w kA kn kc key) (inn : IsB w nA nn nc nonce) (ia : IsB w aA an ac aad) (it : IsB w tA tn tc s) :
    Calls Tryz.prog 190 #[.slice kA kn kc, .slice nA nn nc, .slice aA an ac, .slice tA tn tc] w (OutB w (openS key nonce aad s).1 (openS key nonce aad s).2) := by
  have la := ia.len
  have lt := it.len
  unfold openS
  by_cases hG : GOk key nonce
  · rw [if_pos hG]
    by_cases hl : 65536 < aad.length ∨ 65552 < s.length
    · rw [if_pos hl]
      exact ropen_long kA nA aA tA kn kc nn nc an ac tn tc key nonce w hG ik.len inn.len (by omega)
    · rw [if_neg hl]
      by_cases hs : s.length < 16
      · rw [if_pos hs]
        exact ropen_short kA nA aA tA kn kc nn nc an ac tn tc key nonce w hG ik.len inn.len (by omega) (by omega)
      · rw [if_neg hs]
        obtain ⟨n, hn⟩ : ∃ n, tn = n + 16 := ⟨tn - 16, by omega⟩
        subst hn
        have := ropen_ok kA nA aA tA kn kc nn nc an ac n tc key nonce aad s w hG ik inn ia it (by omega) (by omega)
        rw [show s.length - 16 = n by omega]
        by_cases hT : tagA key nonce aad (s.take n) = s.drop n
        · rw [if_pos hT]
          rw [if_pos hT, if_pos hT] at this
          exact this
        · rw [if_neg hT]
          rw [if_neg hT, if_neg hT] at this
          exact this
  · rw [if_neg hG]
    exact ropen_arg kA nA aA tA kn kc nn nc an ac tn tc key nonce w hG ik.len inn.len
end Go.Proofs.YtakgebbeknfplaaGreat

namespace Go.Proofs.YtakgebbeknfplaaGreat
open Go.RowKit
set_option linter.unusedVariables false

def gm16 : List Nat := [0x58, 0xe2, 0xfc, 0xce, 0xfa, 0x7e, 0x30, 0x61, 0x36, 0x7f, 0x1d, 0x57, 0xa4, 0xe7, 0x45, 0x5a]
theorem sumB_nil (h : List Nat) : sumB h [] [] = digB (hmul 0 (numB h)) 16 := by
  rw [sumB, hsum, absorb_nil, absorb_nil]
  rfl
theorem gm_known : sealA (zeros 16) (zeros 12) [] [] = gm16 := by
  have hc : cryptA (zeros 16) (zeros 12) [] = [] := rfl
  rw [sealA, hc, tagA, sumB_nil]
  decide +kernel
theorem gm_gok : GOk (zeros 16) (zeros 12) := ⟨.inl rfl, rfl⟩
theorem gm_seal : sealS (zeros 16) (zeros 12) [] [] = (gm16, 0) := by
  unfold sealS
  rw [if_pos gm_gok, if_neg (by decide), gm_known]
theorem gm_open : openS (zeros 16) (zeros 12) [] gm16 = ([], 0) := by
  rw [← gm_known]
  exact open_seal gm_gok (by decide) (by decide)
theorem gm_str : ((strOf gm16).toList == [88, 226, 252, 206, 250, 126, 48, 97, 54, 127, 29, 87, 164, 231, 69, 90]) = true := by decide +kernel
theorem isB_nil (w : World) : IsB w none 0 0 [] := ⟨⟨rfl, Nat.le_refl _, Nat.zero_le _, fun z hz => by simp at hz, .inl ⟨rfl, rfl⟩⟩, fun x hx => by cases hx⟩
theorem yields_make {o : Oper} {a : Act} {W w0 : World} (n : Nat) (hn : n ≤ 281474976710656) (ho : o.op = .makeSlice 22 (.const (.int .i64 (n : Int))) (.const (.int .i64 (n : Int)))) (hb : Below w0.heap.size w0 W) : Yields Tryz.prog o a W false (MadeR w0 n) := by
  refine .inl ⟨.slice (some ⟨W.heap.size, 0, none⟩) n n, W.alloc (.cells (bts (zeros n)) 5), ?_, ⟨W.heap.size, rfl, isB_whole (Bk.newAt _ (zeros n) rfl) (byt_zeros n) (zeros_len n) (by omega), hb.size⟩, (Below.refl _ _).alloc (Nat.le_refl _) _, fresh_no _ _ _⟩
  have := make_u8 n n (Nat.le_refl _) hn W
  unfold execOp
  simp only [ho, Act.eval, this, Sem.run_bind, Result.andThen_ok, Sem.run_pure]
theorem exec_assign {P : Program} {r : Operand → Value} {o : Oper} (x : Operand) (h : o.op = .assign x) (w : World) : (execOp r o).run P w = .ok (.value (r x)) w := by
  unfold execOp
  simp only [h, Sem.run_pure]
end Go.Proofs.YtakgebbeknfplaaGreat
