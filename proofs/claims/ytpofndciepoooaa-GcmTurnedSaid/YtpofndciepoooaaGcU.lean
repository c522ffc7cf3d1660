/-
  GcmTurned: the walk.
-/
import Derived.Test.YtpofndciepoooaaGcL
import Derived.Test.YtpofndciepoooaaOpn
namespace Go.Proofs.Ytpofndciepoooaa
open Go.RowKit Go.ChangeShapes Go.WideShapes
set_option linter.unusedVariables false

theorem array6 {α : Type} {cs : Array α} (h : cs.size = 6) : ∃ c0 c1 c2 c3 c4 c5, cs = #[c0, c1, c2, c3, c4, c5] := by
  obtain ⟨l⟩ := cs
  match l, h with
  | [c0, c1, c2, c3, c4, c5], _ => exact ⟨c0, c1, c2, c3, c4, c5, rfl⟩
set_option maxRecDepth 100000 in
theorem open_turned {H : Type} {enc : TypeId × Value → H} {W : World} {base : Nat} {v : Value} {d : DataW H} {p : List MemPlace} (hk : Value.okWide Try.prog W .any base 45 v)
    (h : DataW.Trod enc Try.prog W 0 (fun _ => true) true 45 v d p) (hlt : ∀ x ∈ p, x.block < W.heap.size) :
    ∃ (kA : Option Addr) (kn kc : Nat) (key : List Nat) (nA : Option Addr) (nn nc : Nat) (nonce : List Nat) (aA : Option Addr) (an ac : Nat) (aad : List Nat) (tA : Option Addr) (tn tc : Nat) (text : List Nat) (z : Int) (y : Nat),
      v = .agg #[.slice kA kn kc, .slice nA nn nc, .slice aA an ac, .slice tA tn tc, .int .i64 z, .int .u8 (y : Int)] ∧ IsB W kA kn kc key ∧ IsB W nA nn nc nonce ∧ IsB W aA an ac aad ∧ IsB W tA tn tc text ∧ (Lit.int .i64 z).wf = true ∧ y < 256 := by
  obtain ⟨cs, rfl, hs⟩ := okWide_struct Try.underlying45 hk
  have hc6 : Try.prog.cellsOf 45 = 6 := by kernel_rfl
  rw [hc6] at hs
  obtain ⟨c0, c1, c2, c3, c4, c5, rfl⟩ := array6 hs
  obtain ⟨fuel, hf⟩ := h
  obtain ⟨y0, y1, y2, y3, y4, y5, n, hx, -, h0, h1, h2, h3, h4, h5⟩ := trod_struct6 Try.underlying45 hf
  have cb : Try.prog.cellsOf 22 = 1 := by kernel_rfl
  have ci : Try.prog.cellsOf 3 = 1 := by kernel_rfl
  have c8 : Try.prog.cellsOf 5 = 1 := by kernel_rfl
  have hp : p = y0.2 ++ (y1.2 ++ (y2.2 ++ (y3.2 ++ (y4.2 ++ y5.2)))) := by simpa using congrArg (·.2) hx
  simp only [Value.cells, cb, ci, c8] at h0 h1 h2 h3 h4 h5
  obtain ⟨kA, kn, kc, key, e0, i0⟩ := isB_trod Try.underlying22 Try.underlying5 c8 h0 (fun q hq => hlt q (by rw [hp]; simp [hq]))
  obtain ⟨nA, nn, nc, nonce, e1, i1⟩ := isB_trod Try.underlying22 Try.underlying5 c8 h1 (fun q hq => hlt q (by rw [hp]; simp [hq]))
  obtain ⟨aA, an, ac, aad, e2, i2⟩ := isB_trod Try.underlying22 Try.underlying5 c8 h2 (fun q hq => hlt q (by rw [hp]; simp [hq]))
  obtain ⟨tA, tn, tc, text, e3, i3⟩ := isB_trod Try.underlying22 Try.underlying5 c8 h3 (fun q hq => hlt q (by rw [hp]; simp [hq]))
  obtain ⟨z, e4, w4⟩ := int_trod Try.underlying3 h4
  obtain ⟨y, e5, w5⟩ := int_trod Try.underlying5 h5
  simp at e0 e1 e2 e3 e4 e5
  subst e0 e1 e2 e3 e4 e5
  simp only [Lit.wf, Bool.and_eq_true, decide_eq_true_eq] at w5
  have m1 : IntKind.u8.min = 0 := rfl
  have m2 : IntKind.u8.max = 255 := rfl
  obtain ⟨y', rfl⟩ : ∃ y' : Nat, y = (y' : Int) := ⟨y.toNat, by omega⟩
  exact ⟨kA, kn, kc, key, nA, nn, nc, nonce, aA, an, ac, aad, tA, tn, tc, text, z, y', rfl, i0, i1, i2, i3, w4, by omega⟩
/-- the boxed argument -/
def TuB (w : World) (B : Nat) (cs : Array Value) : Prop := w.heap[B]? = some (.cells cs 45 (0, 0))
theorem TuB.lt {w : World} {B : Nat} {cs : Array Value} (k : TuB w B cs) : B < w.heap.size := lt_of_block k
theorem TuB.ab {w w' : World} {B : Nat} {cs : Array Value} (k : TuB w B cs) (hb : Below w.heap.size w w') : TuB w' B cs := (hb.block B k.lt).trans k
theorem TuB.far {w : World} {B c j : Nat} {cs : Array Value} (k : TuB w B cs) (hne : B ≠ c) (u : Value) : TuB (w.setCell ⟨c, j, none⟩ u) B cs := (Below.heap_setCell w ⟨c, j, none⟩ u B hne).trans k
theorem TuB.cells {w : World} {B : Nat} {c0 c1 c2 c3 c4 c5 : Value} (k : TuB w B #[c0, c1, c2, c3, c4, c5]) : w.cell? ⟨B, 0, none⟩ = some c0 ∧ w.cell? ⟨B, 1, none⟩ = some c1 ∧ w.cell? ⟨B, 2, none⟩ = some c2 ∧ w.cell? ⟨B, 3, none⟩ = some c3 ∧ w.cell? ⟨B, 4, none⟩ = some c4 ∧ w.cell? ⟨B, 5, none⟩ = some c5 := by
  refine ⟨?_, ?_, ?_, ?_, ?_, ?_⟩ <;> (rw [cell_of_row w B _ _ _ (0, 0) k]; rfl)
/-- the constant nought, laid as a number with a name -/
theorem wpList_assignZ {P : Program} {ops : Array Oper} {rest : List Oper} {o : Oper} {a : Act} {w : World} {Q : Exit → Act → World → Prop} (hgd : o.guard = none) (ho : o.op = .assign (.const (.int .i64 0))) (k : Nat) (hk : (k : Int) = 0)
    (h : wpList P ops Q rest (a.put o.dst (.int .i64 (k : Int))) w) : wpList P ops Q (o :: rest) a w := by
  rw [hk] at h
  refine wpList_plain hgd fun K hK => ?_
  have hK := hK _ _ h
  unfold Oper.wp
  rw [exec_assign (.const (.int .i64 0)) ho w]
  exact hK
set_option maxRecDepth 100000 in
set_option maxHeartbeats 8000000 in
theorem turned_any (kA nA aA tA : Option Addr) (kn kc nn nc an ac tn tc : Nat) (key nonce aad text : List Nat) (z : Int) (y : Nat) (w : World) (ik : IsB w kA kn kc key) (inn : IsB w nA nn nc nonce) (ia : IsB w aA an ac aad) (it : IsB w tA tn tc text) (hy : y < 256) :
    Calls Try.prog 9 #[.agg #[.slice kA kn kc, .slice nA nn nc, .slice aA an ac, .slice tA tn tc, .int .i64 z, .int .u8 (y : Int)]] w fun e w' => e = .returned (.bool true) ∧ Below w.heap.size w w' := by
  obtain ⟨i0, hi0, hz0, hz1, hz2⟩ := info_parts infoU8
  have lk := ik.len
  have ln := inn.len
  have la := ia.len
  have lt := it.len
  have hmay := fun W => rmay_any kA nA kn kc nn nc key nonce W lk ln
  have K0 : Hid (IsB (w.alloc (.cells #[.slice kA kn kc, .slice nA nn nc, .slice aA an ac, .slice tA tn tc, .int .i64 z, .int .u8 (y : Int)] 45)) kA kn kc key) := Lib.hid (ik.alloc _)
  have N0 : Hid (IsB (w.alloc (.cells #[.slice kA kn kc, .slice nA nn nc, .slice aA an ac, .slice tA tn tc, .int .i64 z, .int .u8 (y : Int)] 45)) nA nn nc nonce) := Lib.hid (inn.alloc _)
  have A0 : Hid (IsB (w.alloc (.cells #[.slice kA kn kc, .slice nA nn nc, .slice aA an ac, .slice tA tn tc, .int .i64 z, .int .u8 (y : Int)] 45)) aA an ac aad) := Lib.hid (ia.alloc _)
  have T0 : Hid (IsB (w.alloc (.cells #[.slice kA kn kc, .slice nA nn nc, .slice aA an ac, .slice tA tn tc, .int .i64 z, .int .u8 (y : Int)] 45)) tA tn tc text) := Lib.hid (it.alloc _)
  have X0 : Hid (TuB (w.alloc (.cells #[.slice kA kn kc, .slice nA nn nc, .slice aA an ac, .slice tA tn tc, .int .i64 z, .int .u8 (y : Int)] 45)) w.heap.size #[.slice kA kn kc, .slice nA nn nc, .slice aA an ac, .slice tA tn tc, .int .i64 z, .int .u8 (y : Int)]) := Lib.hid (heap_alloc_new w _)
  have B0 : Hid (Below w.heap.size w (w.alloc (.cells #[.slice kA kn kc, .slice nA nn nc, .slice aA an ac, .slice tA tn tc, .int .i64 z, .int .u8 (y : Int)] 45))) := Lib.hid ((Below.refl _ _).alloc (Nat.le_refl _) _)
  clear ik inn ia it
  refine Decidable.byCases (p := ¬ GOk key nonce) (fun hG => ?_) (fun hG => ?_)
  · rw [decide_eq_false hG] at hmay
    have HM := Lib.hid hmay
    clear hmay hG lk ln la lt K0 N0 A0 T0 X0
    go_enter Try.func9, Try.ntmps9
    go_wp2_with fail
    refine (HM.out _).mono ?_
    rintro e w' ⟨rfl, rfl⟩
    go_wp2_with fail
    refine (known6_any _).mono ?_
    rintro e w7 ⟨rfl, b7⟩
    have B7 := Lib.hid (below_tr B0.out b7 B0.out.size)
    clear b7
    go_wp2_with fail
    go_ret
    exact ⟨rfl, B7.out⟩
  replace hG := Decidable.of_not_not hG
  rw [decide_eq_true hG] at hmay
  have HM := Lib.hid hmay
  clear hmay
  by_cases h4 : 400 < an ∨ 400 < tn
  · refine two_ways (decide (400 < (an : Int))) (decide (400 < (tn : Int))) _ (fun h1 => ?_) (fun h1 h2 => ?_) (by simp only [decide_eq_true_eq]; omega)
    all_goals
      obtain ⟨x0, x1, x2, x3, x4, x5⟩ := X0.out.cells
      clear h4 hG lk ln la lt K0 N0 A0 T0 X0
      go_enter Try.func9, Try.ntmps9
      go_wp2_with fail
      refine (HM.out _).mono ?_
      rintro e w' ⟨rfl, rfl⟩
      go_wp2_with fail
      refine (known6_any _).mono ?_
      rintro e w7 ⟨rfl, b7⟩
      have B7 := Lib.hid (below_tr B0.out b7 B0.out.size)
      clear b7
      go_wp2_with fail
      go_ret
      exact ⟨rfl, B7.out⟩
  have hd1 : decide (400 < (an : Int)) = false := by simp; omega
  have hd2 : decide (400 < (tn : Int)) = false := by simp; omega
  have han : an ≤ 400 := by omega
  have htn : tn ≤ 400 := by omega
  have hanb : (an : Int) ≤ 400 := by omega
  have htnb : (tn : Int) ≤ 400 := by omega
  have esl : sealS key nonce aad text = (sealA key nonce aad text, 0) := by
    unfold sealS
    rw [if_pos hG, if_neg (by omega)]
  have eop : openS key nonce aad (sealA key nonce aad text) = (text, 0) := open_seal hG (by omega) (by omega)
  have hsl := sealA_len key nonce aad text
  rw [lt] at hsl
  have hse := fun W h1 h2 h3 h4 => gseal_any kA nA aA tA kn kc nn nc an ac tn tc key nonce aad text W h1 h2 h3 h4
  rw [esl] at hse
  generalize sealA key nonce aad text = S at *
  have hop := fun A c W h1 h2 h3 h4 => gopen_any kA nA aA A kn kc nn nc an ac (tn + 16) c key nonce aad S W h1 h2 h3 h4
  rw [eop] at hop
  have hcp := fun W h => copy_any aA an ac aad W h (by omega)
  obtain ⟨N, hN⟩ : ∃ N, N = an + (tn + 16) := ⟨_, rfl⟩
  have hLn : (aad ++ S).length = N := by rw [List.length_append, la, hsl, hN]
  obtain ⟨k, hk⟩ : ∃ k : Nat, k = if 0 < z then (z.tmod (N : Int)).toNat else 0 := ⟨_, rfl⟩
  have hkp : 0 < z → z.tmod (N : Int) = (k : Int) := fun h => by
    rw [if_pos h] at hk
    have := Int.tmod_nonneg (N : Int) (a := z) (by omega)
    omega
  have hkn : ¬ 0 < z → (k : Int) = 0 := fun h => by
    rw [if_neg h] at hk
    omega
  have hkN : k < N := by
    by_cases h : 0 < z
    · have h1 := hkp h
      have h2 := Int.tmod_lt_of_pos z (b := (N : Int)) (by omega)
      omega
    · have := hkn h
      omega
  clear hk
  -- what is opened in the end
  obtain ⟨L, hL⟩ : ∃ L, L = (aad ++ S).set k (at' (aad ++ S) k ^^^ y) := ⟨_, rfl⟩
  have lL : L.length = N := by rw [hL, List.length_set, hLn]
  have hzero : y = 0 → L.take an = aad ∧ L.drop an = S := fun h0 => by
    have : L = aad ++ S := by
      rw [hL, h0, Nat.xor_zero]
      refine at'_ext (by rw [List.length_set]) fun j hj => ?_
      rw [List.length_set] at hj
      unfold at'
      rw [List.getElem?_set]
      by_cases e : k = j
      · subst e
        rw [if_pos rfl, if_pos hj]
        rfl
      · rw [if_neg e]
    rw [this]
    exact ⟨by rw [← la]; exact List.take_left, by rw [← la]; exact List.drop_left⟩
  have hy0 : y = 0 → (openS key nonce (L.take an) (L.drop an)).2 = 0 := fun h0 => by
    rw [(hzero h0).1, (hzero h0).2, eop]
  have ho1 := fun A1 A2 c1 c2 W h1 h2 h3 h4 => gopen_any kA nA A1 A2 kn kc nn nc an c1 (tn + 16) c2 key nonce (L.take an) (L.drop an) W h1 h2 h3 h4
  have ho2 := fun A1 A2 c1 c2 W h1 h2 h3 h4 => ropen_any kA nA A1 A2 kn kc nn nc an c1 (tn + 16) c2 key nonce (L.take an) (L.drop an) W h1 h2 h3 h4
  generalize (openS key nonce (L.take an) (L.drop an)).1 = out at *
  generalize (openS key nonce (L.take an) (L.drop an)).2 = err at *
  have HSE := Lib.hid hse
  have HOP := Lib.hid hop
  have HCP := Lib.hid hcp
  have HO1 := Lib.hid ho1
  have HO2 := Lib.hid ho2
  have HSL := Lib.hid hsl
  have HY0 := Lib.hid hy0
  have HL := Lib.hid hL
  have LL := Lib.hid lL
  have HLN := Lib.hid hLn
  have HN := Lib.hid hN
  have HKP := Lib.hid hkp
  have HKN := Lib.hid hkn
  have HK := Lib.hid hkN
  have HY := Lib.hid hy
  have LA := Lib.hid la
  clear hse hop hcp ho1 ho2 hsl hy0 hzero hL lL hLn hN hkp hkn hkN hy h4 hG lk ln la lt esl eop
  obtain ⟨x0, x1, x2, x3, x4, x5⟩ := X0.out.cells
  go_enter Try.func9, Try.ntmps9
  go_wp2_with fail
  refine (HM.out _).mono ?_
  rintro e w' ⟨rfl, rfl⟩
  generalize w.alloc (.cells #[.slice kA kn kc, .slice nA nn nc, .slice aA an ac, .slice tA tn tc, .int .i64 z, .int .u8 (y : Int)] 45) = W0 at *
  go_wp2_with fail
  refine (HSE.out W0 K0.out N0.out A0.out T0.out).mono ?_
  rintro e w1 ⟨v1, rfl, hv1, hb1⟩
  obtain ⟨A1, c1, rfl, -, -⟩ := hv1.shape
  rw [HSL.out] at hv1 ⊢
  have S1 := Lib.hid (hv1.isB HSL.out)
  have K1 := Lib.hid (K0.out.ab hb1)
  have N1 := Lib.hid (N0.out.ab hb1)
  have A1' := Lib.hid (A0.out.ab hb1)
  have T1 := Lib.hid (T0.out.ab hb1)
  have X1 := Lib.hid (X0.out.ab hb1)
  have B1 := Lib.hid (below_tr B0.out hb1 B0.out.size)
  clear hv1 hb1 K0 N0 A0 T0 X0 B0 x0 x1 x2 x3 x4 x5 HSE HM
  obtain ⟨x0, x1, x2, x3, x4, x5⟩ := X1.out.cells
  go_wp2_with fail
  refine (HOP.out _ _ w1 K1.out N1.out A1'.out S1.out).mono ?_
  rintro e w2 ⟨v2, rfl, hv2, hb2⟩
  obtain ⟨A2, c2, rfl, -, -⟩ := hv2.shape
  have D2 := Lib.hid (hv2.isB rfl)
  have S2 := Lib.hid (S1.out.ab hb2)
  have K2 := Lib.hid (K1.out.ab hb2)
  have N2 := Lib.hid (N1.out.ab hb2)
  have A2' := Lib.hid (A1'.out.ab hb2)
  have T2 := Lib.hid (T1.out.ab hb2)
  have X2 := Lib.hid (X1.out.ab hb2)
  have B2 := Lib.hid (below_tr B1.out hb2 B1.out.size)
  clear hv2 hb2 K1 N1 A1' T1 X1 B1 x0 x1 x2 x3 x4 x5 HOP S1
  obtain ⟨x0, x1, x2, x3, x4, x5⟩ := X2.out.cells
  go_wp2_with fail
  refine (same_yes _ _ _ _ _ _ text text _ D2.out T2.out rfl).mono ?_
  rintro e w' ⟨rfl, rfl⟩
  go_wp2_with fail
  refine (HCP.out w2 A2'.out).mono ?_
  rintro e w3 ⟨rfl, hk3, hb3⟩
  have V3 : Hid (OwB w3 w2.heap.size (.slice (some ⟨w2.heap.size, 0, none⟩) an (an + 3)) aad) := Lib.hid (OwB.ofBk (l := aad) hk3 (Nat.le_refl _) LA.out (show an ≤ an + 3 by omega) (by rw [List.length_append, LA.out]; rfl) (by omega) (by rw [List.take_append_of_le_length (by rw [LA.out]; exact Nat.le_refl _), List.take_of_length_le (by rw [LA.out]; exact Nat.le_refl _)]) A2'.out.2)
  have S3 := Lib.hid (S2.out.ab hb3)
  have K3 := Lib.hid (K2.out.ab hb3)
  have N3 := Lib.hid (N2.out.ab hb3)
  have X3 := Lib.hid (X2.out.ab hb3)
  have B3 := Lib.hid (below_tr B2.out hb3 B2.out.size)
  have E3 := Lib.hid hb3.size
  have B32 := Lib.hid hb3
  clear hk3 hb3 HCP T2 D2 A2' x0 x1 x2 x3 x4 x5
  have hnap : an + (tn + 16) ≤ 1000000 := by omega
  have HNAP := Lib.hid hnap
  clear hnap
  refine Decidable.byCases (p := 0 < z) (fun hz => ?_) (fun hz => ?_)
  · have hzd : decide (0 < z) = true := decide_eq_true hz
    have hzk := HKP.out hz
    clear hz
    have hNN : ((N : Nat) : Int) ≤ 1000000 := by have := HN.out; have := HNAP.out; omega
    have hN0 : (0 : Int) < (N : Int) := by have := HN.out; omega
    have hN0n : 0 < N := by have := HN.out; omega
    have hkI : (k : Int) < (N : Int) := by have := HK.out; omega
    have han2 : (an : Int) ≤ (N : Int) := by have := HN.out; omega
    go_wp2_with (refine wpList_appB _ rfl (.tmp 79) (.tmp 80) rfl Try.underlying22 hi0 hz0 hz1 hz2 rfl V3.out rfl S3.out rfl (by rw [LA.out]; have := HNAP.out; omega) E3.out ?_
                 intro v4 w4 hv4 hb4 hg4 hat4
                 obtain ⟨g, c4, rfl, hge, hlt4, hc4, hc4m, -⟩ := hv4.form (by rw [HLN.out]; have := HN.out; omega)
                 rw [HLN.out] at hv4 hc4 ⊢
                 have V4 := Lib.hid hv4
                 have BQ : Hid (Below w2.heap.size w2 w4) := Lib.hid ((show Below w2.heap.size w2 w3 from B32.out).trans hb4)
                 have hcap : (N : Int) ≤ (c4 : Int) := by omega
                 have HC4 := Lib.hid hc4
                 have HGE := Lib.hid hge
                 clear hv4 hb4 hg4 hat4 hge hlt4 hc4 hc4m
                 have K4 := Lib.hid (K2.out.ab BQ.out)
                 have N4 := Lib.hid (N2.out.ab BQ.out)
                 have X4 := Lib.hid (X2.out.ab BQ.out)
                 have B4 := Lib.hid (below_tr B2.out BQ.out B2.out.size)
                 have GX : Hid (w.heap.size < g) := Lib.hid (by have := X2.out.lt; have := HGE.out; omega)
                 obtain ⟨x0, x1, x2, x3, x4, x5⟩ := X4.out.cells
                 have ck := V4.out.rw k (by rw [HLN.out]; exact HK.out)
                 have fk := V4.out.free HLN.out k
                 have hbk := V4.out.byt.at' k
                 have hxo := bits_xor_u8 (at' (aad ++ S) k) y hbk HY.out
                 have hlx := xor_lt256 hbk HY.out
                 have V5 := Lib.hid (V4.out.store HLN.out (k := k) hlx)
                 rw [← HL.out] at V5
                 generalize at' (aad ++ S) k = vk at *)
    refine wp_still_tail 8 (by kernel_rfl) (by kernel_rfl) ?_
    simp only [List.take_succ_cons, List.take_zero, List.drop_succ_cons, List.drop_zero]
    repeat still_step
    refine wpStill_nil ?_
    go_wp2_with fail
    have BQ5 : Hid (Below w2.heap.size w2 (w4.setCell ⟨g, k, none⟩ (.int .u8 ((vk ^^^ y : Nat) : Int))).drew) := Lib.hid ((BQ.out.setCell (p := ⟨g, k, none⟩) HGE.out _).drew)
    have V6 : Hid (OwB (w4.setCell ⟨g, k, none⟩ (.int .u8 ((vk ^^^ y : Nat) : Int))).drew w2.heap.size (.slice (some ⟨g, 0, none⟩) N c4) L) := Lib.hid V5.out.drew
    generalize (w4.setCell ⟨g, k, none⟩ (.int .u8 ((vk ^^^ y : Nat) : Int))).drew = WW at *
    have KK := Lib.hid (K2.out.ab BQ5.out)
    have NN := Lib.hid (N2.out.ab BQ5.out)
    have XX := Lib.hid (X2.out.ab BQ5.out)
    have BB := Lib.hid (below_tr B2.out BQ5.out B2.out.size)
    have IL := V6.out.isB LL.out
    have IA := Lib.hid (IL.take (m := an) (by omega))
    have is0 := isB_drop IL (m := an) (by omega)
    have hs1 := fun W => sl_upto W (some ⟨g, 0, none⟩) N c4 an (by omega)
    have hs2 := fun W => sl_from W (some ⟨g, 0, none⟩) N c4 an (by omega)
    rw [show N - an = tn + 16 by have := HN.out; omega] at is0 hs2
    generalize dropA (some ⟨g, 0, none⟩) c4 an = DA at *
    have IS := Lib.hid is0
    have HSA := Lib.hid hs1
    have HSB := Lib.hid hs2
    clear x0 x1 x2 x3 x4 x5 ck fk hbk hxo hlx V5 V4 BQ K4 N4 X4 B4 GX BQ5 V6 IL is0 hs1 hs2 V3 S3 K3 N3 X3 B3 E3 B32 K2 N2 X2 B2 S2 hcap HC4 HGE
    refine wp_wide2 [⟨99, IsR (.pointer (some ⟨w.heap.size, 0, none⟩)), [], false⟩, ⟨100, IsR (.slice kA kn kc), [0], false⟩, ⟨101, IsR (.pointer (some ⟨w.heap.size, 1, none⟩)), [], false⟩, ⟨102, IsR (.slice nA nn nc), [2], false⟩, ⟨103, IsR (.slice (some ⟨g, 0, none⟩) N c4), [], false⟩, ⟨104, IsR (.pointer (some ⟨w.heap.size, 2, none⟩)), [], false⟩, ⟨105, IsR (.slice aA an ac), [5], false⟩, ⟨106, IsR (.int .i64 (an : Int)), [6], false⟩, ⟨107, IsR (.slice (some ⟨g, 0, none⟩) an c4), [4, 7], false⟩, ⟨108, IsR (.slice (some ⟨g, 0, none⟩) N c4), [], false⟩, ⟨109, IsR (.pointer (some ⟨w.heap.size, 2, none⟩)), [], false⟩, ⟨110, IsR (.slice aA an ac), [10], false⟩, ⟨111, IsR (.int .i64 (an : Int)), [11], false⟩, ⟨112, IsR (.slice DA (tn + 16) (c4 - an)), [9, 12], false⟩, ⟨113, TupB WW.heap.size err out, [1, 3, 8, 13], false⟩, ⟨98, TupB WW.heap.size err out, [14], false⟩, ⟨114, OwR WW.heap.size out, [15], false⟩, ⟨115, IsR (.int .i64 (err : Int)), [15], false⟩, ⟨9, OwR WW.heap.size out, [16], false⟩] (by kernel_rfl) (by kernel_rfl) rfl rfl rfl ⟨?_, ?_, ?_, ?_, ?_, ?_, ?_, ?_, ?_, ?_, ?_, ?_, ?_, ?_, ?_, ?_, ?_, ?_, ?_, trivial⟩ ?_
    · refine ⟨rfl, rfl, IsR.mono _, fun a W hA hb hd => yields_value _ ?_ rfl⟩
      have h0 : a.tmps[1]?.getD undef = .pointer (some ⟨w.heap.size, 0, none⟩) := (eval_get a 1).trans ((hA.eval (by simp)).trans rfl)
      go_simp
    · refine ⟨rfl, rfl, IsR.mono _, fun a W hA hb hd => yields_value _ ?_ rfl⟩
      have h0 : a.tmps[99]?.getD undef = .pointer (some ⟨w.heap.size, 0, none⟩) := (eval_get a 99).trans (hd 0 (by simp) _ rfl)
      obtain ⟨x0, x1, x2, x3, x4, x5⟩ := (XX.out.ab hb).cells
      go_simp
    · refine ⟨rfl, rfl, IsR.mono _, fun a W hA hb hd => yields_value _ ?_ rfl⟩
      have h0 : a.tmps[1]?.getD undef = .pointer (some ⟨w.heap.size, 0, none⟩) := (eval_get a 1).trans ((hA.eval (by simp)).trans rfl)
      go_simp
    · refine ⟨rfl, rfl, IsR.mono _, fun a W hA hb hd => yields_value _ ?_ rfl⟩
      have h0 : a.tmps[101]?.getD undef = .pointer (some ⟨w.heap.size, 1, none⟩) := (eval_get a 101).trans (hd 2 (by simp) _ rfl)
      obtain ⟨x0, x1, x2, x3, x4, x5⟩ := (XX.out.ab hb).cells
      go_simp
    · refine ⟨rfl, rfl, IsR.mono _, fun a W hA hb hd => yields_value _ ?_ rfl⟩
      have h0 : a.tmps[7]?.getD undef = .slice (some ⟨g, 0, none⟩) N c4 := (eval_get a 7).trans ((hA.eval (by simp)).trans rfl)
      go_simp
    · refine ⟨rfl, rfl, IsR.mono _, fun a W hA hb hd => yields_value _ ?_ rfl⟩
      have h0 : a.tmps[1]?.getD undef = .pointer (some ⟨w.heap.size, 0, none⟩) := (eval_get a 1).trans ((hA.eval (by simp)).trans rfl)
      go_simp
    · refine ⟨rfl, rfl, IsR.mono _, fun a W hA hb hd => yields_value _ ?_ rfl⟩
      have h0 : a.tmps[104]?.getD undef = .pointer (some ⟨w.heap.size, 2, none⟩) := (eval_get a 104).trans (hd 5 (by simp) _ rfl)
      obtain ⟨x0, x1, x2, x3, x4, x5⟩ := (XX.out.ab hb).cells
      go_simp
    · refine ⟨rfl, rfl, IsR.mono _, fun a W hA hb hd => yields_value _ ?_ rfl⟩
      have h0 : a.tmps[105]?.getD undef = .slice aA an ac := (eval_get a 105).trans (hd 6 (by simp) _ rfl)
      go_simp
    · refine ⟨rfl, rfl, IsR.mono _, fun a W hA hb hd => yields_value _ ?_ rfl⟩
      have h0 : a.tmps[103]?.getD undef = .slice (some ⟨g, 0, none⟩) N c4 := (eval_get a 103).trans (hd 4 (by simp) _ rfl)
      have h1 : a.tmps[106]?.getD undef = .int .i64 (an : Int) := (eval_get a 106).trans (hd 7 (by simp) _ rfl)
      have h2 := HSA.out W
      go_simp
    · refine ⟨rfl, rfl, IsR.mono _, fun a W hA hb hd => yields_value _ ?_ rfl⟩
      have h0 : a.tmps[7]?.getD undef = .slice (some ⟨g, 0, none⟩) N c4 := (eval_get a 7).trans ((hA.eval (by simp)).trans rfl)
      go_simp
    · refine ⟨rfl, rfl, IsR.mono _, fun a W hA hb hd => yields_value _ ?_ rfl⟩
      have h0 : a.tmps[1]?.getD undef = .pointer (some ⟨w.heap.size, 0, none⟩) := (eval_get a 1).trans ((hA.eval (by simp)).trans rfl)
      go_simp
    · refine ⟨rfl, rfl, IsR.mono _, fun a W hA hb hd => yields_value _ ?_ rfl⟩
      have h0 : a.tmps[109]?.getD undef = .pointer (some ⟨w.heap.size, 2, none⟩) := (eval_get a 109).trans (hd 10 (by simp) _ rfl)
      obtain ⟨x0, x1, x2, x3, x4, x5⟩ := (XX.out.ab hb).cells
      go_simp
    · refine ⟨rfl, rfl, IsR.mono _, fun a W hA hb hd => yields_value _ ?_ rfl⟩
      have h0 : a.tmps[110]?.getD undef = .slice aA an ac := (eval_get a 110).trans (hd 11 (by simp) _ rfl)
      go_simp
    · refine ⟨rfl, rfl, IsR.mono _, fun a W hA hb hd => yields_value _ ?_ rfl⟩
      have h0 : a.tmps[108]?.getD undef = .slice (some ⟨g, 0, none⟩) N c4 := (eval_get a 108).trans (hd 9 (by simp) _ rfl)
      have h1 : a.tmps[111]?.getD undef = .int .i64 (an : Int) := (eval_get a 111).trans (hd 12 (by simp) _ rfl)
      have h2 := HSB.out W
      go_simp
    · refine ⟨rfl, rfl, TupB.mono _ _ _, fun a W hA hb hd => ?_⟩
      have h0 : a.tmps[100]?.getD undef = .slice kA kn kc := (eval_get a 100).trans (hd 1 (by simp) _ rfl)
      have h1 : a.tmps[102]?.getD undef = .slice nA nn nc := (eval_get a 102).trans (hd 3 (by simp) _ rfl)
      have h2 : a.tmps[107]?.getD undef = .slice (some ⟨g, 0, none⟩) an c4 := (eval_get a 107).trans (hd 8 (by simp) _ rfl)
      have h3 : a.tmps[112]?.getD undef = .slice DA (tn + 16) (c4 - an) := (eval_get a 112).trans (hd 13 (by simp) _ rfl)
      refine yields_call 35 #[.slice kA kn kc, .slice nA nn nc, .slice (some ⟨g, 0, none⟩) an c4, .slice DA (tn + 16) (c4 - an)] (by go_simp) ((HO1.out _ _ _ _ W (KK.out.ab hb) (NN.out.ab hb) (IA.out.ab hb) (IS.out.ab hb)).mono ?_)
      rintro e W' ⟨v, rfl, hv, hb'⟩
      exact ⟨_, rfl, ⟨v, rfl, hv.lower hb.size⟩, hb'⟩
    · refine ⟨rfl, rfl, TupB.mono _ _ _, fun a W hA hb hd => ?_⟩
      obtain ⟨v0, e0, ho⟩ := hd 14 (by simp) _ rfl
      have h0 : a.tmps[113]?.getD undef = .tuple #[v0, .int .i64 (err : Int)] := (eval_get a 113).trans e0
      refine yields_value (.tuple #[v0, .int .i64 (err : Int)]) ?_ ⟨v0, rfl, ho⟩
      go_simp
    · refine ⟨rfl, rfl, OwR.mono _ _, fun a W hA hb hd => ?_⟩
      obtain ⟨v0, e0, ho⟩ := hd 15 (by simp) _ rfl
      have h0 : a.tmps[98]?.getD undef = .tuple #[v0, .int .i64 (err : Int)] := (eval_get a 98).trans e0
      refine yields_value (v0) ?_ ho
      go_simp
    · refine ⟨rfl, rfl, IsR.mono _, fun a W hA hb hd => ?_⟩
      obtain ⟨v0, e0, ho⟩ := hd 15 (by simp) _ rfl
      have h0 : a.tmps[98]?.getD undef = .tuple #[v0, .int .i64 (err : Int)] := (eval_get a 98).trans e0
      refine yields_value (.int .i64 (err : Int)) ?_ rfl
      go_simp
    · refine ⟨rfl, rfl, OwR.mono _ _, fun a W hA hb hd => ?_⟩
      have ho : OwB W WW.heap.size (a.eval (.tmp 114)) out := hd 16 (by simp) _ rfl
      exact yields_value (a.eval (.tmp 114)) (exec_assign (.tmp 114) rfl W) ho
    intro vs W6 hR hF hb
    have eE : vs 115 = .int .i64 (err : Int) := hR 17 _ rfl
    have hV : OwB W6 WW.heap.size (vs 9) out := hR 18 _ rfl
    simp only [List.map_cons, List.map_nil, List.foldl_cons, List.foldl_nil, List.length_cons, List.length_nil, List.drop_succ_cons, List.drop_zero, Act.put, List.setIfInBounds_toArray, List.set_cons_zero, List.set_cons_succ, eE]
    generalize vs 9 = vv at *
    generalize vs 99 = q99
    generalize vs 100 = q100
    generalize vs 101 = q101
    generalize vs 102 = q102
    generalize vs 103 = q103
    generalize vs 104 = q104
    generalize vs 105 = q105
    generalize vs 106 = q106
    generalize vs 107 = q107
    generalize vs 108 = q108
    generalize vs 109 = q109
    generalize vs 110 = q110
    generalize vs 111 = q111
    generalize vs 112 = q112
    generalize vs 113 = q113
    generalize vs 98 = q98
    generalize vs 114 = q114
    clear hR hF eE
    obtain ⟨A9, c9, rfl, -, -⟩ := hV.shape
    have I9 := Lib.hid (hV.isB rfl)
    have K6 := Lib.hid (KK.out.ab hb)
    have N6 := Lib.hid (NN.out.ab hb)
    have X6 := Lib.hid (XX.out.ab hb)
    have A6 := Lib.hid (IA.out.ab hb)
    have S6 := Lib.hid (IS.out.ab hb)
    have B6 := Lib.hid (below_tr BB.out hb BB.out.size)
    clear hV hb KK NN XX IA IS BB HO1
    go_wp2_with fail
    refine wp_wide2 [⟨117, IsR (.pointer (some ⟨w.heap.size, 0, none⟩)), [], false⟩, ⟨118, IsR (.slice kA kn kc), [0], false⟩, ⟨119, IsR (.pointer (some ⟨w.heap.size, 1, none⟩)), [], false⟩, ⟨120, IsR (.slice nA nn nc), [2], false⟩, ⟨121, IsR (.slice (some ⟨g, 0, none⟩) N c4), [], false⟩, ⟨122, IsR (.pointer (some ⟨w.heap.size, 2, none⟩)), [], false⟩, ⟨123, IsR (.slice aA an ac), [5], false⟩, ⟨124, IsR (.int .i64 (an : Int)), [6], false⟩, ⟨125, IsR (.slice (some ⟨g, 0, none⟩) an c4), [4, 7], false⟩, ⟨126, IsR (.slice (some ⟨g, 0, none⟩) N c4), [], false⟩, ⟨127, IsR (.pointer (some ⟨w.heap.size, 2, none⟩)), [], false⟩, ⟨128, IsR (.slice aA an ac), [10], false⟩, ⟨129, IsR (.int .i64 (an : Int)), [11], false⟩, ⟨130, IsR (.slice DA (tn + 16) (c4 - an)), [9, 12], false⟩, ⟨131, TupB W6.heap.size err out, [1, 3, 8, 13], false⟩, ⟨116, TupB W6.heap.size err out, [14], false⟩, ⟨132, OwR W6.heap.size out, [15], false⟩, ⟨133, IsR (.int .i64 (err : Int)), [15], false⟩, ⟨11, OwR W6.heap.size out, [16], false⟩] (by kernel_rfl) (by kernel_rfl) rfl rfl rfl ⟨?_, ?_, ?_, ?_, ?_, ?_, ?_, ?_, ?_, ?_, ?_, ?_, ?_, ?_, ?_, ?_, ?_, ?_, ?_, trivial⟩ ?_
    · refine ⟨rfl, rfl, IsR.mono _, fun a W hA hb hd => yields_value _ ?_ rfl⟩
      have h0 : a.tmps[1]?.getD undef = .pointer (some ⟨w.heap.size, 0, none⟩) := (eval_get a 1).trans ((hA.eval (by simp)).trans rfl)
      go_simp
    · refine ⟨rfl, rfl, IsR.mono _, fun a W hA hb hd => yields_value _ ?_ rfl⟩
      have h0 : a.tmps[117]?.getD undef = .pointer (some ⟨w.heap.size, 0, none⟩) := (eval_get a 117).trans (hd 0 (by simp) _ rfl)
      obtain ⟨x0, x1, x2, x3, x4, x5⟩ := (X6.out.ab hb).cells
      go_simp
    · refine ⟨rfl, rfl, IsR.mono _, fun a W hA hb hd => yields_value _ ?_ rfl⟩
      have h0 : a.tmps[1]?.getD undef = .pointer (some ⟨w.heap.size, 0, none⟩) := (eval_get a 1).trans ((hA.eval (by simp)).trans rfl)
      go_simp
    · refine ⟨rfl, rfl, IsR.mono _, fun a W hA hb hd => yields_value _ ?_ rfl⟩
      have h0 : a.tmps[119]?.getD undef = .pointer (some ⟨w.heap.size, 1, none⟩) := (eval_get a 119).trans (hd 2 (by simp) _ rfl)
      obtain ⟨x0, x1, x2, x3, x4, x5⟩ := (X6.out.ab hb).cells
      go_simp
    · refine ⟨rfl, rfl, IsR.mono _, fun a W hA hb hd => yields_value _ ?_ rfl⟩
      have h0 : a.tmps[7]?.getD undef = .slice (some ⟨g, 0, none⟩) N c4 := (eval_get a 7).trans ((hA.eval (by simp)).trans rfl)
      go_simp
    · refine ⟨rfl, rfl, IsR.mono _, fun a W hA hb hd => yields_value _ ?_ rfl⟩
      have h0 : a.tmps[1]?.getD undef = .pointer (some ⟨w.heap.size, 0, none⟩) := (eval_get a 1).trans ((hA.eval (by simp)).trans rfl)
      go_simp
    · refine ⟨rfl, rfl, IsR.mono _, fun a W hA hb hd => yields_value _ ?_ rfl⟩
      have h0 : a.tmps[122]?.getD undef = .pointer (some ⟨w.heap.size, 2, none⟩) := (eval_get a 122).trans (hd 5 (by simp) _ rfl)
      obtain ⟨x0, x1, x2, x3, x4, x5⟩ := (X6.out.ab hb).cells
      go_simp
    · refine ⟨rfl, rfl, IsR.mono _, fun a W hA hb hd => yields_value _ ?_ rfl⟩
      have h0 : a.tmps[123]?.getD undef = .slice aA an ac := (eval_get a 123).trans (hd 6 (by simp) _ rfl)
      go_simp
    · refine ⟨rfl, rfl, IsR.mono _, fun a W hA hb hd => yields_value _ ?_ rfl⟩
      have h0 : a.tmps[121]?.getD undef = .slice (some ⟨g, 0, none⟩) N c4 := (eval_get a 121).trans (hd 4 (by simp) _ rfl)
      have h1 : a.tmps[124]?.getD undef = .int .i64 (an : Int) := (eval_get a 124).trans (hd 7 (by simp) _ rfl)
      have h2 := HSA.out W
      go_simp
    · refine ⟨rfl, rfl, IsR.mono _, fun a W hA hb hd => yields_value _ ?_ rfl⟩
      have h0 : a.tmps[7]?.getD undef = .slice (some ⟨g, 0, none⟩) N c4 := (eval_get a 7).trans ((hA.eval (by simp)).trans rfl)
      go_simp
    · refine ⟨rfl, rfl, IsR.mono _, fun a W hA hb hd => yields_value _ ?_ rfl⟩
      have h0 : a.tmps[1]?.getD undef = .pointer (some ⟨w.heap.size, 0, none⟩) := (eval_get a 1).trans ((hA.eval (by simp)).trans rfl)
      go_simp
    · refine ⟨rfl, rfl, IsR.mono _, fun a W hA hb hd => yields_value _ ?_ rfl⟩
      have h0 : a.tmps[127]?.getD undef = .pointer (some ⟨w.heap.size, 2, none⟩) := (eval_get a 127).trans (hd 10 (by simp) _ rfl)
      obtain ⟨x0, x1, x2, x3, x4, x5⟩ := (X6.out.ab hb).cells
      go_simp
    · refine ⟨rfl, rfl, IsR.mono _, fun a W hA hb hd => yields_value _ ?_ rfl⟩
      have h0 : a.tmps[128]?.getD undef = .slice aA an ac := (eval_get a 128).trans (hd 11 (by simp) _ rfl)
      go_simp
    · refine ⟨rfl, rfl, IsR.mono _, fun a W hA hb hd => yields_value _ ?_ rfl⟩
      have h0 : a.tmps[126]?.getD undef = .slice (some ⟨g, 0, none⟩) N c4 := (eval_get a 126).trans (hd 9 (by simp) _ rfl)
      have h1 : a.tmps[129]?.getD undef = .int .i64 (an : Int) := (eval_get a 129).trans (hd 12 (by simp) _ rfl)
      have h2 := HSB.out W
      go_simp
    · refine ⟨rfl, rfl, TupB.mono _ _ _, fun a W hA hb hd => ?_⟩
      have h0 : a.tmps[118]?.getD undef = .slice kA kn kc := (eval_get a 118).trans (hd 1 (by simp) _ rfl)
      have h1 : a.tmps[120]?.getD undef = .slice nA nn nc := (eval_get a 120).trans (hd 3 (by simp) _ rfl)
      have h2 : a.tmps[125]?.getD undef = .slice (some ⟨g, 0, none⟩) an c4 := (eval_get a 125).trans (hd 8 (by simp) _ rfl)
      have h3 : a.tmps[130]?.getD undef = .slice DA (tn + 16) (c4 - an) := (eval_get a 130).trans (hd 13 (by simp) _ rfl)
      refine yields_call 36 #[.slice kA kn kc, .slice nA nn nc, .slice (some ⟨g, 0, none⟩) an c4, .slice DA (tn + 16) (c4 - an)] (by go_simp) ((HO2.out _ _ _ _ W (K6.out.ab hb) (N6.out.ab hb) (A6.out.ab hb) (S6.out.ab hb)).mono ?_)
      rintro e W' ⟨v, rfl, hv, hb'⟩
      exact ⟨_, rfl, ⟨v, rfl, hv.lower hb.size⟩, hb'⟩
    · refine ⟨rfl, rfl, TupB.mono _ _ _, fun a W hA hb hd => ?_⟩
      obtain ⟨v0, e0, ho⟩ := hd 14 (by simp) _ rfl
      have h0 : a.tmps[131]?.getD undef = .tuple #[v0, .int .i64 (err : Int)] := (eval_get a 131).trans e0
      refine yields_value (.tuple #[v0, .int .i64 (err : Int)]) ?_ ⟨v0, rfl, ho⟩
      go_simp
    · refine ⟨rfl, rfl, OwR.mono _ _, fun a W hA hb hd => ?_⟩
      obtain ⟨v0, e0, ho⟩ := hd 15 (by simp) _ rfl
      have h0 : a.tmps[116]?.getD undef = .tuple #[v0, .int .i64 (err : Int)] := (eval_get a 116).trans e0
      refine yields_value (v0) ?_ ho
      go_simp
    · refine ⟨rfl, rfl, IsR.mono _, fun a W hA hb hd => ?_⟩
      obtain ⟨v0, e0, ho⟩ := hd 15 (by simp) _ rfl
      have h0 : a.tmps[116]?.getD undef = .tuple #[v0, .int .i64 (err : Int)] := (eval_get a 116).trans e0
      refine yields_value (.int .i64 (err : Int)) ?_ rfl
      go_simp
    · refine ⟨rfl, rfl, OwR.mono _ _, fun a W hA hb hd => ?_⟩
      have ho : OwB W W6.heap.size (a.eval (.tmp 132)) out := hd 16 (by simp) _ rfl
      exact yields_value (a.eval (.tmp 132)) (exec_assign (.tmp 132) rfl W) ho
    intro vs W7 hR hF hb
    have eE : vs 133 = .int .i64 (err : Int) := hR 17 _ rfl
    have hV : OwB W7 W6.heap.size (vs 11) out := hR 18 _ rfl
    simp only [List.map_cons, List.map_nil, List.foldl_cons, List.foldl_nil, List.length_cons, List.length_nil, List.drop_succ_cons, List.drop_zero, Act.put, List.setIfInBounds_toArray, List.set_cons_zero, List.set_cons_succ, eE]
    generalize vs 11 = vv at *
    generalize vs 117 = q117
    generalize vs 118 = q118
    generalize vs 119 = q119
    generalize vs 120 = q120
    generalize vs 121 = q121
    generalize vs 122 = q122
    generalize vs 123 = q123
    generalize vs 124 = q124
    generalize vs 125 = q125
    generalize vs 126 = q126
    generalize vs 127 = q127
    generalize vs 128 = q128
    generalize vs 129 = q129
    generalize vs 130 = q130
    generalize vs 131 = q131
    generalize vs 116 = q116
    generalize vs 132 = q132
    clear hR hF eE
    obtain ⟨A11, c11, rfl, -, -⟩ := hV.shape
    have J11 := Lib.hid (hV.isB rfl)
    have J9 := Lib.hid (I9.out.ab hb)
    have X7 := Lib.hid (X6.out.ab hb)
    have B7 := Lib.hid (below_tr B6.out hb B6.out.size)
    clear hV hb K6 N6 X6 A6 S6 B6 HO2 I9 HSA HSB
    obtain ⟨x0, x1, x2, x3, x4, x5⟩ := X7.out.cells
    by_cases hy1 : y = 0
    · have hee := HY0.out hy1
      subst hy1
      subst hee
      clear X7
      go_wp2_with fail
      refine (same_yes _ _ _ _ _ _ out out _ J9.out J11.out rfl).mono ?_
      rintro e w' ⟨rfl, rfl⟩
      go_wp2_with fail
      refine (known6_any _).mono ?_
      rintro e w9 ⟨rfl, b9⟩
      have B9 := Lib.hid (below_tr B7.out b9 B7.out.size)
      clear b9
      go_wp2_with fail
      go_ret
      exact ⟨rfl, B9.out⟩
    · have hyne : ((y : Int) != 0) = true := by simp; omega
      clear X7 hy1
      go_wp2_with fail
      refine (same_yes _ _ _ _ _ _ out out _ J9.out J11.out rfl).mono ?_
      rintro e w' ⟨rfl, rfl⟩
      go_wp2_with fail
      refine (known6_any _).mono ?_
      rintro e w9 ⟨rfl, b9⟩
      have B9 := Lib.hid (below_tr B7.out b9 B7.out.size)
      clear b9
      go_wp2_with fail
      go_ret
      exact ⟨rfl, B9.out⟩
  · have hzd : decide (0 < z) = false := decide_eq_false hz
    obtain rfl : k = 0 := by have := HKN.out (by omega); omega
    clear hz
    have hNN : ((N : Nat) : Int) ≤ 1000000 := by have := HN.out; have := HNAP.out; omega
    have hN0 : (0 : Int) < (N : Int) := by have := HN.out; omega
    have hN0n : 0 < N := by have := HN.out; omega
    have hkI : (0 : Int) < (N : Int) := by have := HK.out; omega
    have han2 : (an : Int) ≤ (N : Int) := by have := HN.out; omega
    go_wp2_with (refine wpList_appB _ rfl (.tmp 79) (.tmp 80) rfl Try.underlying22 hi0 hz0 hz1 hz2 rfl V3.out rfl S3.out rfl (by rw [LA.out]; have := HNAP.out; omega) E3.out ?_
                 intro v4 w4 hv4 hb4 hg4 hat4
                 obtain ⟨g, c4, rfl, hge, hlt4, hc4, hc4m, -⟩ := hv4.form (by rw [HLN.out]; have := HN.out; omega)
                 rw [HLN.out] at hv4 hc4 ⊢
                 have V4 := Lib.hid hv4
                 have BQ : Hid (Below w2.heap.size w2 w4) := Lib.hid ((show Below w2.heap.size w2 w3 from B32.out).trans hb4)
                 have hcap : (N : Int) ≤ (c4 : Int) := by omega
                 have HC4 := Lib.hid hc4
                 have HGE := Lib.hid hge
                 clear hv4 hb4 hg4 hat4 hge hlt4 hc4 hc4m
                 have K4 := Lib.hid (K2.out.ab BQ.out)
                 have N4 := Lib.hid (N2.out.ab BQ.out)
                 have X4 := Lib.hid (X2.out.ab BQ.out)
                 have B4 := Lib.hid (below_tr B2.out BQ.out B2.out.size)
                 have GX : Hid (w.heap.size < g) := Lib.hid (by have := X2.out.lt; have := HGE.out; omega)
                 obtain ⟨x0, x1, x2, x3, x4, x5⟩ := X4.out.cells
                 have ck := V4.out.rw 0 (by rw [HLN.out]; exact HK.out)
                 have fk := V4.out.free HLN.out 0
                 have hbk := V4.out.byt.at' 0
                 have hxo := bits_xor_u8 (at' (aad ++ S) 0) y hbk HY.out
                 have hlx := xor_lt256 hbk HY.out
                 have V5 := Lib.hid (V4.out.store HLN.out (k := 0) hlx)
                 rw [← HL.out] at V5
                 generalize at' (aad ++ S) 0 = vk at *)
    refine wp_still_tail 8 (by kernel_rfl) (by kernel_rfl) ?_
    simp only [List.take_succ_cons, List.take_zero, List.drop_succ_cons, List.drop_zero]
    repeat still_step
    refine wpStill_nil ?_
    go_wp2_with fail
    have BQ5 : Hid (Below w2.heap.size w2 (w4.setCell ⟨g, 0, none⟩ (.int .u8 ((vk ^^^ y : Nat) : Int))).drew) := Lib.hid ((BQ.out.setCell (p := ⟨g, 0, none⟩) HGE.out _).drew)
    have V6 : Hid (OwB (w4.setCell ⟨g, 0, none⟩ (.int .u8 ((vk ^^^ y : Nat) : Int))).drew w2.heap.size (.slice (some ⟨g, 0, none⟩) N c4) L) := Lib.hid V5.out.drew
    generalize (w4.setCell ⟨g, 0, none⟩ (.int .u8 ((vk ^^^ y : Nat) : Int))).drew = WW at *
    have KK := Lib.hid (K2.out.ab BQ5.out)
    have NN := Lib.hid (N2.out.ab BQ5.out)
    have XX := Lib.hid (X2.out.ab BQ5.out)
    have BB := Lib.hid (below_tr B2.out BQ5.out B2.out.size)
    have IL := V6.out.isB LL.out
    have IA := Lib.hid (IL.take (m := an) (by omega))
    have is0 := isB_drop IL (m := an) (by omega)
    have hs1 := fun W => sl_upto W (some ⟨g, 0, none⟩) N c4 an (by omega)
    have hs2 := fun W => sl_from W (some ⟨g, 0, none⟩) N c4 an (by omega)
    rw [show N - an = tn + 16 by have := HN.out; omega] at is0 hs2
    generalize dropA (some ⟨g, 0, none⟩) c4 an = DA at *
    have IS := Lib.hid is0
    have HSA := Lib.hid hs1
    have HSB := Lib.hid hs2
    clear x0 x1 x2 x3 x4 x5 ck fk hbk hxo hlx V5 V4 BQ K4 N4 X4 B4 GX BQ5 V6 IL is0 hs1 hs2 V3 S3 K3 N3 X3 B3 E3 B32 K2 N2 X2 B2 S2 hcap HC4 HGE
    refine wp_wide2 [⟨99, IsR (.pointer (some ⟨w.heap.size, 0, none⟩)), [], false⟩, ⟨100, IsR (.slice kA kn kc), [0], false⟩, ⟨101, IsR (.pointer (some ⟨w.heap.size, 1, none⟩)), [], false⟩, ⟨102, IsR (.slice nA nn nc), [2], false⟩, ⟨103, IsR (.slice (some ⟨g, 0, none⟩) N c4), [], false⟩, ⟨104, IsR (.pointer (some ⟨w.heap.size, 2, none⟩)), [], false⟩, ⟨105, IsR (.slice aA an ac), [5], false⟩, ⟨106, IsR (.int .i64 (an : Int)), [6], false⟩, ⟨107, IsR (.slice (some ⟨g, 0, none⟩) an c4), [4, 7], false⟩, ⟨108, IsR (.slice (some ⟨g, 0, none⟩) N c4), [], false⟩, ⟨109, IsR (.pointer (some ⟨w.heap.size, 2, none⟩)), [], false⟩, ⟨110, IsR (.slice aA an ac), [10], false⟩, ⟨111, IsR (.int .i64 (an : Int)), [11], false⟩, ⟨112, IsR (.slice DA (tn + 16) (c4 - an)), [9, 12], false⟩, ⟨113, TupB WW.heap.size err out, [1, 3, 8, 13], false⟩, ⟨98, TupB WW.heap.size err out, [14], false⟩, ⟨114, OwR WW.heap.size out, [15], false⟩, ⟨115, IsR (.int .i64 (err : Int)), [15], false⟩, ⟨9, OwR WW.heap.size out, [16], false⟩] (by kernel_rfl) (by kernel_rfl) rfl rfl rfl ⟨?_, ?_, ?_, ?_, ?_, ?_, ?_, ?_, ?_, ?_, ?_, ?_, ?_, ?_, ?_, ?_, ?_, ?_, ?_, trivial⟩ ?_
    · refine ⟨rfl, rfl, IsR.mono _, fun a W hA hb hd => yields_value _ ?_ rfl⟩
      have h0 : a.tmps[1]?.getD undef = .pointer (some ⟨w.heap.size, 0, none⟩) := (eval_get a 1).trans ((hA.eval (by simp)).trans rfl)
      go_simp
    · refine ⟨rfl, rfl, IsR.mono _, fun a W hA hb hd => yields_value _ ?_ rfl⟩
      have h0 : a.tmps[99]?.getD undef = .pointer (some ⟨w.heap.size, 0, none⟩) := (eval_get a 99).trans (hd 0 (by simp) _ rfl)
      obtain ⟨x0, x1, x2, x3, x4, x5⟩ := (XX.out.ab hb).cells
      go_simp
    · refine ⟨rfl, rfl, IsR.mono _, fun a W hA hb hd => yields_value _ ?_ rfl⟩
      have h0 : a.tmps[1]?.getD undef = .pointer (some ⟨w.heap.size, 0, none⟩) := (eval_get a 1).trans ((hA.eval (by simp)).trans rfl)
      go_simp
    · refine ⟨rfl, rfl, IsR.mono _, fun a W hA hb hd => yields_value _ ?_ rfl⟩
      have h0 : a.tmps[101]?.getD undef = .pointer (some ⟨w.heap.size, 1, none⟩) := (eval_get a 101).trans (hd 2 (by simp) _ rfl)
      obtain ⟨x0, x1, x2, x3, x4, x5⟩ := (XX.out.ab hb).cells
      go_simp
    · refine ⟨rfl, rfl, IsR.mono _, fun a W hA hb hd => yields_value _ ?_ rfl⟩
      have h0 : a.tmps[7]?.getD undef = .slice (some ⟨g, 0, none⟩) N c4 := (eval_get a 7).trans ((hA.eval (by simp)).trans rfl)
      go_simp
    · refine ⟨rfl, rfl, IsR.mono _, fun a W hA hb hd => yields_value _ ?_ rfl⟩
      have h0 : a.tmps[1]?.getD undef = .pointer (some ⟨w.heap.size, 0, none⟩) := (eval_get a 1).trans ((hA.eval (by simp)).trans rfl)
      go_simp
    · refine ⟨rfl, rfl, IsR.mono _, fun a W hA hb hd => yields_value _ ?_ rfl⟩
      have h0 : a.tmps[104]?.getD undef = .pointer (some ⟨w.heap.size, 2, none⟩) := (eval_get a 104).trans (hd 5 (by simp) _ rfl)
      obtain ⟨x0, x1, x2, x3, x4, x5⟩ := (XX.out.ab hb).cells
      go_simp
    · refine ⟨rfl, rfl, IsR.mono _, fun a W hA hb hd => yields_value _ ?_ rfl⟩
      have h0 : a.tmps[105]?.getD undef = .slice aA an ac := (eval_get a 105).trans (hd 6 (by simp) _ rfl)
      go_simp
    · refine ⟨rfl, rfl, IsR.mono _, fun a W hA hb hd => yields_value _ ?_ rfl⟩
      have h0 : a.tmps[103]?.getD undef = .slice (some ⟨g, 0, none⟩) N c4 := (eval_get a 103).trans (hd 4 (by simp) _ rfl)
      have h1 : a.tmps[106]?.getD undef = .int .i64 (an : Int) := (eval_get a 106).trans (hd 7 (by simp) _ rfl)
      have h2 := HSA.out W
      go_simp
    · refine ⟨rfl, rfl, IsR.mono _, fun a W hA hb hd => yields_value _ ?_ rfl⟩
      have h0 : a.tmps[7]?.getD undef = .slice (some ⟨g, 0, none⟩) N c4 := (eval_get a 7).trans ((hA.eval (by simp)).trans rfl)
      go_simp
    · refine ⟨rfl, rfl, IsR.mono _, fun a W hA hb hd => yields_value _ ?_ rfl⟩
      have h0 : a.tmps[1]?.getD undef = .pointer (some ⟨w.heap.size, 0, none⟩) := (eval_get a 1).trans ((hA.eval (by simp)).trans rfl)
      go_simp
    · refine ⟨rfl, rfl, IsR.mono _, fun a W hA hb hd => yields_value _ ?_ rfl⟩
      have h0 : a.tmps[109]?.getD undef = .pointer (some ⟨w.heap.size, 2, none⟩) := (eval_get a 109).trans (hd 10 (by simp) _ rfl)
      obtain ⟨x0, x1, x2, x3, x4, x5⟩ := (XX.out.ab hb).cells
      go_simp
    · refine ⟨rfl, rfl, IsR.mono _, fun a W hA hb hd => yields_value _ ?_ rfl⟩
      have h0 : a.tmps[110]?.getD undef = .slice aA an ac := (eval_get a 110).trans (hd 11 (by simp) _ rfl)
      go_simp
    · refine ⟨rfl, rfl, IsR.mono _, fun a W hA hb hd => yields_value _ ?_ rfl⟩
      have h0 : a.tmps[108]?.getD undef = .slice (some ⟨g, 0, none⟩) N c4 := (eval_get a 108).trans (hd 9 (by simp) _ rfl)
      have h1 : a.tmps[111]?.getD undef = .int .i64 (an : Int) := (eval_get a 111).trans (hd 12 (by simp) _ rfl)
      have h2 := HSB.out W
      go_simp
    · refine ⟨rfl, rfl, TupB.mono _ _ _, fun a W hA hb hd => ?_⟩
      have h0 : a.tmps[100]?.getD undef = .slice kA kn kc := (eval_get a 100).trans (hd 1 (by simp) _ rfl)
      have h1 : a.tmps[102]?.getD undef = .slice nA nn nc := (eval_get a 102).trans (hd 3 (by simp) _ rfl)
      have h2 : a.tmps[107]?.getD undef = .slice (some ⟨g, 0, none⟩) an c4 := (eval_get a 107).trans (hd 8 (by simp) _ rfl)
      have h3 : a.tmps[112]?.getD undef = .slice DA (tn + 16) (c4 - an) := (eval_get a 112).trans (hd 13 (by simp) _ rfl)
      refine yields_call 35 #[.slice kA kn kc, .slice nA nn nc, .slice (some ⟨g, 0, none⟩) an c4, .slice DA (tn + 16) (c4 - an)] (by go_simp) ((HO1.out _ _ _ _ W (KK.out.ab hb) (NN.out.ab hb) (IA.out.ab hb) (IS.out.ab hb)).mono ?_)
      rintro e W' ⟨v, rfl, hv, hb'⟩
      exact ⟨_, rfl, ⟨v, rfl, hv.lower hb.size⟩, hb'⟩
    · refine ⟨rfl, rfl, TupB.mono _ _ _, fun a W hA hb hd => ?_⟩
      obtain ⟨v0, e0, ho⟩ := hd 14 (by simp) _ rfl
      have h0 : a.tmps[113]?.getD undef = .tuple #[v0, .int .i64 (err : Int)] := (eval_get a 113).trans e0
      refine yields_value (.tuple #[v0, .int .i64 (err : Int)]) ?_ ⟨v0, rfl, ho⟩
      go_simp
    · refine ⟨rfl, rfl, OwR.mono _ _, fun a W hA hb hd => ?_⟩
      obtain ⟨v0, e0, ho⟩ := hd 15 (by simp) _ rfl
      have h0 : a.tmps[98]?.getD undef = .tuple #[v0, .int .i64 (err : Int)] := (eval_get a 98).trans e0
      refine yields_value (v0) ?_ ho
      go_simp
    · refine ⟨rfl, rfl, IsR.mono _, fun a W hA hb hd => ?_⟩
      obtain ⟨v0, e0, ho⟩ := hd 15 (by simp) _ rfl
      have h0 : a.tmps[98]?.getD undef = .tuple #[v0, .int .i64 (err : Int)] := (eval_get a 98).trans e0
      refine yields_value (.int .i64 (err : Int)) ?_ rfl
      go_simp
    · refine ⟨rfl, rfl, OwR.mono _ _, fun a W hA hb hd => ?_⟩
      have ho : OwB W WW.heap.size (a.eval (.tmp 114)) out := hd 16 (by simp) _ rfl
      exact yields_value (a.eval (.tmp 114)) (exec_assign (.tmp 114) rfl W) ho
    intro vs W6 hR hF hb
    have eE : vs 115 = .int .i64 (err : Int) := hR 17 _ rfl
    have hV : OwB W6 WW.heap.size (vs 9) out := hR 18 _ rfl
    simp only [List.map_cons, List.map_nil, List.foldl_cons, List.foldl_nil, List.length_cons, List.length_nil, List.drop_succ_cons, List.drop_zero, Act.put, List.setIfInBounds_toArray, List.set_cons_zero, List.set_cons_succ, eE]
    generalize vs 9 = vv at *
    generalize vs 99 = q99
    generalize vs 100 = q100
    generalize vs 101 = q101
    generalize vs 102 = q102
    generalize vs 103 = q103
    generalize vs 104 = q104
    generalize vs 105 = q105
    generalize vs 106 = q106
    generalize vs 107 = q107
    generalize vs 108 = q108
    generalize vs 109 = q109
    generalize vs 110 = q110
    generalize vs 111 = q111
    generalize vs 112 = q112
    generalize vs 113 = q113
    generalize vs 98 = q98
    generalize vs 114 = q114
    clear hR hF eE
    obtain ⟨A9, c9, rfl, -, -⟩ := hV.shape
    have I9 := Lib.hid (hV.isB rfl)
    have K6 := Lib.hid (KK.out.ab hb)
    have N6 := Lib.hid (NN.out.ab hb)
    have X6 := Lib.hid (XX.out.ab hb)
    have A6 := Lib.hid (IA.out.ab hb)
    have S6 := Lib.hid (IS.out.ab hb)
    have B6 := Lib.hid (below_tr BB.out hb BB.out.size)
    clear hV hb KK NN XX IA IS BB HO1
    go_wp2_with fail
    refine wp_wide2 [⟨117, IsR (.pointer (some ⟨w.heap.size, 0, none⟩)), [], false⟩, ⟨118, IsR (.slice kA kn kc), [0], false⟩, ⟨119, IsR (.pointer (some ⟨w.heap.size, 1, none⟩)), [], false⟩, ⟨120, IsR (.slice nA nn nc), [2], false⟩, ⟨121, IsR (.slice (some ⟨g, 0, none⟩) N c4), [], false⟩, ⟨122, IsR (.pointer (some ⟨w.heap.size, 2, none⟩)), [], false⟩, ⟨123, IsR (.slice aA an ac), [5], false⟩, ⟨124, IsR (.int .i64 (an : Int)), [6], false⟩, ⟨125, IsR (.slice (some ⟨g, 0, none⟩) an c4), [4, 7], false⟩, ⟨126, IsR (.slice (some ⟨g, 0, none⟩) N c4), [], false⟩, ⟨127, IsR (.pointer (some ⟨w.heap.size, 2, none⟩)), [], false⟩, ⟨128, IsR (.slice aA an ac), [10], false⟩, ⟨129, IsR (.int .i64 (an : Int)), [11], false⟩, ⟨130, IsR (.slice DA (tn + 16) (c4 - an)), [9, 12], false⟩, ⟨131, TupB W6.heap.size err out, [1, 3, 8, 13], false⟩, ⟨116, TupB W6.heap.size err out, [14], false⟩, ⟨132, OwR W6.heap.size out, [15], false⟩, ⟨133, IsR (.int .i64 (err : Int)), [15], false⟩, ⟨11, OwR W6.heap.size out, [16], false⟩] (by kernel_rfl) (by kernel_rfl) rfl rfl rfl ⟨?_, ?_, ?_, ?_, ?_, ?_, ?_, ?_, ?_, ?_, ?_, ?_, ?_, ?_, ?_, ?_, ?_, ?_, ?_, trivial⟩ ?_
    · refine ⟨rfl, rfl, IsR.mono _, fun a W hA hb hd => yields_value _ ?_ rfl⟩
      have h0 : a.tmps[1]?.getD undef = .pointer (some ⟨w.heap.size, 0, none⟩) := (eval_get a 1).trans ((hA.eval (by simp)).trans rfl)
      go_simp
    · refine ⟨rfl, rfl, IsR.mono _, fun a W hA hb hd => yields_value _ ?_ rfl⟩
      have h0 : a.tmps[117]?.getD undef = .pointer (some ⟨w.heap.size, 0, none⟩) := (eval_get a 117).trans (hd 0 (by simp) _ rfl)
      obtain ⟨x0, x1, x2, x3, x4, x5⟩ := (X6.out.ab hb).cells
      go_simp
    · refine ⟨rfl, rfl, IsR.mono _, fun a W hA hb hd => yields_value _ ?_ rfl⟩
      have h0 : a.tmps[1]?.getD undef = .pointer (some ⟨w.heap.size, 0, none⟩) := (eval_get a 1).trans ((hA.eval (by simp)).trans rfl)
      go_simp
    · refine ⟨rfl, rfl, IsR.mono _, fun a W hA hb hd => yields_value _ ?_ rfl⟩
      have h0 : a.tmps[119]?.getD undef = .pointer (some ⟨w.heap.size, 1, none⟩) := (eval_get a 119).trans (hd 2 (by simp) _ rfl)
      obtain ⟨x0, x1, x2, x3, x4, x5⟩ := (X6.out.ab hb).cells
      go_simp
    · refine ⟨rfl, rfl, IsR.mono _, fun a W hA hb hd => yields_value _ ?_ rfl⟩
      have h0 : a.tmps[7]?.getD undef = .slice (some ⟨g, 0, none⟩) N c4 := (eval_get a 7).trans ((hA.eval (by simp)).trans rfl)
      go_simp
    · refine ⟨rfl, rfl, IsR.mono _, fun a W hA hb hd => yields_value _ ?_ rfl⟩
      have h0 : a.tmps[1]?.getD undef = .pointer (some ⟨w.heap.size, 0, none⟩) := (eval_get a 1).trans ((hA.eval (by simp)).trans rfl)
      go_simp
    · refine ⟨rfl, rfl, IsR.mono _, fun a W hA hb hd => yields_value _ ?_ rfl⟩
      have h0 : a.tmps[122]?.getD undef = .pointer (some ⟨w.heap.size, 2, none⟩) := (eval_get a 122).trans (hd 5 (by simp) _ rfl)
      obtain ⟨x0, x1, x2, x3, x4, x5⟩ := (X6.out.ab hb).cells
      go_simp
    · refine ⟨rfl, rfl, IsR.mono _, fun a W hA hb hd => yields_value _ ?_ rfl⟩
      have h0 : a.tmps[123]?.getD undef = .slice aA an ac := (eval_get a 123).trans (hd 6 (by simp) _ rfl)
      go_simp
    · refine ⟨rfl, rfl, IsR.mono _, fun a W hA hb hd => yields_value _ ?_ rfl⟩
      have h0 : a.tmps[121]?.getD undef = .slice (some ⟨g, 0, none⟩) N c4 := (eval_get a 121).trans (hd 4 (by simp) _ rfl)
      have h1 : a.tmps[124]?.getD undef = .int .i64 (an : Int) := (eval_get a 124).trans (hd 7 (by simp) _ rfl)
      have h2 := HSA.out W
      go_simp
    · refine ⟨rfl, rfl, IsR.mono _, fun a W hA hb hd => yields_value _ ?_ rfl⟩
      have h0 : a.tmps[7]?.getD undef = .slice (some ⟨g, 0, none⟩) N c4 := (eval_get a 7).trans ((hA.eval (by simp)).trans rfl)
      go_simp
    · refine ⟨rfl, rfl, IsR.mono _, fun a W hA hb hd => yields_value _ ?_ rfl⟩
      have h0 : a.tmps[1]?.getD undef = .pointer (some ⟨w.heap.size, 0, none⟩) := (eval_get a 1).trans ((hA.eval (by simp)).trans rfl)
      go_simp
    · refine ⟨rfl, rfl, IsR.mono _, fun a W hA hb hd => yields_value _ ?_ rfl⟩
      have h0 : a.tmps[127]?.getD undef = .pointer (some ⟨w.heap.size, 2, none⟩) := (eval_get a 127).trans (hd 10 (by simp) _ rfl)
      obtain ⟨x0, x1, x2, x3, x4, x5⟩ := (X6.out.ab hb).cells
      go_simp
    · refine ⟨rfl, rfl, IsR.mono _, fun a W hA hb hd => yields_value _ ?_ rfl⟩
      have h0 : a.tmps[128]?.getD undef = .slice aA an ac := (eval_get a 128).trans (hd 11 (by simp) _ rfl)
      go_simp
    · refine ⟨rfl, rfl, IsR.mono _, fun a W hA hb hd => yields_value _ ?_ rfl⟩
      have h0 : a.tmps[126]?.getD undef = .slice (some ⟨g, 0, none⟩) N c4 := (eval_get a 126).trans (hd 9 (by simp) _ rfl)
      have h1 : a.tmps[129]?.getD undef = .int .i64 (an : Int) := (eval_get a 129).trans (hd 12 (by simp) _ rfl)
      have h2 := HSB.out W
      go_simp
    · refine ⟨rfl, rfl, TupB.mono _ _ _, fun a W hA hb hd => ?_⟩
      have h0 : a.tmps[118]?.getD undef = .slice kA kn kc := (eval_get a 118).trans (hd 1 (by simp) _ rfl)
      have h1 : a.tmps[120]?.getD undef = .slice nA nn nc := (eval_get a 120).trans (hd 3 (by simp) _ rfl)
      have h2 : a.tmps[125]?.getD undef = .slice (some ⟨g, 0, none⟩) an c4 := (eval_get a 125).trans (hd 8 (by simp) _ rfl)
      have h3 : a.tmps[130]?.getD undef = .slice DA (tn + 16) (c4 - an) := (eval_get a 130).trans (hd 13 (by simp) _ rfl)
      refine yields_call 36 #[.slice kA kn kc, .slice nA nn nc, .slice (some ⟨g, 0, none⟩) an c4, .slice DA (tn + 16) (c4 - an)] (by go_simp) ((HO2.out _ _ _ _ W (K6.out.ab hb) (N6.out.ab hb) (A6.out.ab hb) (S6.out.ab hb)).mono ?_)
      rintro e W' ⟨v, rfl, hv, hb'⟩
      exact ⟨_, rfl, ⟨v, rfl, hv.lower hb.size⟩, hb'⟩
    · refine ⟨rfl, rfl, TupB.mono _ _ _, fun a W hA hb hd => ?_⟩
      obtain ⟨v0, e0, ho⟩ := hd 14 (by simp) _ rfl
      have h0 : a.tmps[131]?.getD undef = .tuple #[v0, .int .i64 (err : Int)] := (eval_get a 131).trans e0
      refine yields_value (.tuple #[v0, .int .i64 (err : Int)]) ?_ ⟨v0, rfl, ho⟩
      go_simp
    · refine ⟨rfl, rfl, OwR.mono _ _, fun a W hA hb hd => ?_⟩
      obtain ⟨v0, e0, ho⟩ := hd 15 (by simp) _ rfl
      have h0 : a.tmps[116]?.getD undef = .tuple #[v0, .int .i64 (err : Int)] := (eval_get a 116).trans e0
      refine yields_value (v0) ?_ ho
      go_simp
    · refine ⟨rfl, rfl, IsR.mono _, fun a W hA hb hd => ?_⟩
      obtain ⟨v0, e0, ho⟩ := hd 15 (by simp) _ rfl
      have h0 : a.tmps[116]?.getD undef = .tuple #[v0, .int .i64 (err : Int)] := (eval_get a 116).trans e0
      refine yields_value (.int .i64 (err : Int)) ?_ rfl
      go_simp
    · refine ⟨rfl, rfl, OwR.mono _ _, fun a W hA hb hd => ?_⟩
      have ho : OwB W W6.heap.size (a.eval (.tmp 132)) out := hd 16 (by simp) _ rfl
      exact yields_value (a.eval (.tmp 132)) (exec_assign (.tmp 132) rfl W) ho
    intro vs W7 hR hF hb
    have eE : vs 133 = .int .i64 (err : Int) := hR 17 _ rfl
    have hV : OwB W7 W6.heap.size (vs 11) out := hR 18 _ rfl
    simp only [List.map_cons, List.map_nil, List.foldl_cons, List.foldl_nil, List.length_cons, List.length_nil, List.drop_succ_cons, List.drop_zero, Act.put, List.setIfInBounds_toArray, List.set_cons_zero, List.set_cons_succ, eE]
    generalize vs 11 = vv at *
    generalize vs 117 = q117
    generalize vs 118 = q118
    generalize vs 119 = q119
    generalize vs 120 = q120
    generalize vs 121 = q121
    generalize vs 122 = q122
    generalize vs 123 = q123
    generalize vs 124 = q124
    generalize vs 125 = q125
    generalize vs 126 = q126
    generalize vs 127 = q127
    generalize vs 128 = q128
    generalize vs 129 = q129
    generalize vs 130 = q130
    generalize vs 131 = q131
    generalize vs 116 = q116
    generalize vs 132 = q132
    clear hR hF eE
    obtain ⟨A11, c11, rfl, -, -⟩ := hV.shape
    have J11 := Lib.hid (hV.isB rfl)
    have J9 := Lib.hid (I9.out.ab hb)
    have X7 := Lib.hid (X6.out.ab hb)
    have B7 := Lib.hid (below_tr B6.out hb B6.out.size)
    clear hV hb K6 N6 X6 A6 S6 B6 HO2 I9 HSA HSB
    obtain ⟨x0, x1, x2, x3, x4, x5⟩ := X7.out.cells
    by_cases hy1 : y = 0
    · have hee := HY0.out hy1
      subst hy1
      subst hee
      clear X7
      go_wp2_with fail
      refine (same_yes _ _ _ _ _ _ out out _ J9.out J11.out rfl).mono ?_
      rintro e w' ⟨rfl, rfl⟩
      go_wp2_with fail
      refine (known6_any _).mono ?_
      rintro e w9 ⟨rfl, b9⟩
      have B9 := Lib.hid (below_tr B7.out b9 B7.out.size)
      clear b9
      go_wp2_with fail
      go_ret
      exact ⟨rfl, B9.out⟩
    · have hyne : ((y : Int) != 0) = true := by simp; omega
      clear X7 hy1
      go_wp2_with fail
      refine (same_yes _ _ _ _ _ _ out out _ J9.out J11.out rfl).mono ?_
      rintro e w' ⟨rfl, rfl⟩
      go_wp2_with fail
      refine (known6_any _).mono ?_
      rintro e w9 ⟨rfl, b9⟩
      have B9 := Lib.hid (below_tr B7.out b9 B7.out.size)
      clear b9
      go_wp2_with fail
      go_ret
      exact ⟨rfl, B9.out⟩
set_option maxRecDepth 100000 in
theorem turned_walk (v : Value) (w : World) (hk : ∃ base, Value.okWide Try.prog w .any base 45 v) {H : Type} {enc : TypeId × Value → H} {d : DataW H} {p : List MemPlace} (h : DataW.Trod enc Try.prog w 0 (fun _ => true) true 45 v d p) (hl : ∀ x ∈ p, x.block < w.heap.size) :
    Calls Try.prog 9 #[v] w fun e w' => e = .returned (.bool true) ∧ Below w.heap.size w w' := by
  obtain ⟨base, hk⟩ := hk
  obtain ⟨kA, kn, kc, key, nA, nn, nc, nonce, aA, an, ac, aad, tA, tn, tc, text, z, y, rfl, ik, inn, ia, it, _, hy⟩ := open_turned hk h hl
  exact turned_any kA nA aA tA kn kc nn nc an ac tn tc key nonce aad text z y w ik inn ia it hy
end Go.Proofs.Ytpofndciepoooaa
