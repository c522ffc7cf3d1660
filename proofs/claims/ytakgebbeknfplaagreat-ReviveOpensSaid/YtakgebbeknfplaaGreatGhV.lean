/-
  WALKS: the reference's Sum (ref04).
-/
import Derived.Test.YtakgebbeknfplaaGreatGhR
import Derived.Test.YtakgebbeknfplaaGreatGcP
import Derived.Test.YtakgebbeknfplaaGreatWid3
namespace Go.Proofs.YtakgebbeknfplaaGreat
open Go.RowKit
set_option linter.unusedVariables false

theorem eval_get (a : Act) (t : Nat) : a.tmps[t]?.getD undef = a.eval (.tmp t) := by simp [Act.eval]
/-- all that is absorbed -/
def allB (aad text : List Nat) : List Nat := full aad ++ full text ++ digB (8 * aad.length) 8 ++ digB (8 * text.length) 8
theorem allB_len (aad text : List Nat) : ∃ M, (allB aad text).length = 16 * M := by
  obtain ⟨n, hn⟩ := full_len aad
  obtain ⟨m, hm⟩ := full_len text
  exact ⟨n + m + 1, by simp only [allB, List.length_append, digB_len, hn, hm]; omega⟩
theorem full_le (l : List Nat) : (full l).length ≤ l.length + 16 := by simp [full, zeros_len]; omega
theorem allB_le (aad text : List Nat) : (allB aad text).length ≤ aad.length + text.length + 48 := by
  have := full_le aad
  have := full_le text
  simp only [allB, List.length_append, digB_len]
  omega
theorem allB_byt {aad text : List Nat} (ha : Byt aad) (ht : Byt text) : Byt (allB aad text) := byt_app (byt_app (byt_app (full_byt ha) (full_byt ht)) (digB_byt _ _)) (digB_byt _ _)
theorem allB_sum (X : Nat) {aad text : List Nat} (ha : 8 * aad.length < 2 ^ 64) (ht : 8 * text.length < 2 ^ 64) : hsum X aad text = absorb X 0 (allB aad text) := by
  rw [hsum_ref X aad text ha ht, allB, List.append_assoc]
  simp only [List.append_assoc]
/-- what holds in the loops -/
structure RsSt (B gs : Nat) (w0 w : World) (H : List Nat) (A : Option Addr) (N c : Nat) (L S : List Nat) : Prop where
  hb : Bk w B 365 H
  rb : Bk w (B + 1) 365 z16
  sb : Bk w gs 365 S
  ib : IsB w A N c L
  below : Below B w0 w
  far : B + 1 < gs
  ia : ∀ x, A = some x → x.block < gs
section
variable {B gs : Nat} {w0 w w' : World} {H : List Nat} {A : Option Addr} {N c : Nat} {L S : List Nat}
theorem RsSt.ab (h : RsSt B gs w0 w H A N c L S) (hb : Below w.heap.size w w') : RsSt B gs w0 w' H A N c L S :=
  ⟨h.hb.ab hb, h.rb.ab hb, h.sb.ab hb, h.ib.ab hb, below_tr h.below hb (by have := h.hb.lt; omega), h.far, h.ia⟩
theorem RsSt.alloc (h : RsSt B gs w0 w H A N c L S) (o : Obj) : RsSt B gs w0 (w.alloc o) H A N c L S := h.ab ((Below.refl _ _).alloc (Nat.le_refl _) _)
theorem RsSt.far_cell (h : RsSt B gs w0 w H A N c L S) {g j : Nat} (hg : gs < g) (u : Value) : RsSt B gs w0 (w.setCell ⟨g, j, none⟩ u) H A N c L S :=
  have hf := h.far
  ⟨h.hb.far (by omega) _, h.rb.far (by omega) _, h.sb.far (by omega) _, isB_cellFar h.ib (fun x hx => by have := h.ia x hx; omega) u, h.below.setCell (by show B ≤ g; omega) _, h.far, h.ia⟩
theorem RsSt.sum (h : RsSt B gs w0 w H A N c L S) (S' : List Nat) : RsSt B gs w0 (w.setRow gs (bts S')) H A N c L S' :=
  have hf := h.far
  ⟨h.hb.rowFar (by omega) _, h.rb.rowFar (by omega) _, h.sb.row S', isB_rowFar h.ib (fun x hx => by have := h.ia x hx; omega) _, Below.row h.below (by omega) _, h.far, h.ia⟩
end
/-- the sum behind q blocks -/
def qS (X : Nat) (L : List Nat) (q : Nat) : Nat := absorb X 0 (L.take (16 * q))
def qB (L : List Nat) (q : Nat) : List Nat := (L.drop (16 * q)).take 16
theorem qB_len {L : List Nat} {q : Nat} (h : 16 * (q + 1) ≤ L.length) : (qB L q).length = 16 := by simp [qB]; omega
theorem qB_byt {L : List Nat} (h : Byt L) (q : Nat) : Byt (qB L q) := byt_take (byt_drop h _) _
theorem qB_at {L : List Nat} {q k : Nat} (h : k < 16) : at' (qB L q) k = at' L (16 * q + k) := by rw [qB, at'_take8 h, at'_drop]
theorem qS_lt {X : Nat} (hX : X < 2 ^ 128) (L : List Nat) (q : Nat) : qS X L q < 2 ^ 128 := absorb_lt hX _ 0 _ (Nat.le_refl _) (by decide)
theorem qS_step (X : Nat) {L : List Nat} {q : Nat} (h : 16 * (q + 1) ≤ L.length) : qS X L (q + 1) = hmul (qS X L q ^^^ numB (qB L q)) X := by
  unfold qS
  rw [show 16 * (q + 1) = 16 * q + 16 by omega, List.take_add]
  show absorb X 0 (L.take (16 * q) ++ qB L q) = _
  rw [absorb_snoc X 0 q (by simp; omega) (qB_len h)]
theorem digB_num (X : Nat) (h : X < 2 ^ 128) : numB (digB X 16) = X := numB_digB X 16 (by rw [show (256 : Nat) ^ 16 = 2 ^ 128 by decide]; exact h)
theorem qS_bytes {X : Nat} (hX : X < 2 ^ 128) {L : List Nat} (hL : Byt L) {q : Nat} (h : 16 * (q + 1) ≤ L.length) : digB (hmul (numB (xorL (digB (qS X L q) 16) (qB L q))) X) 16 = digB (qS X L (q + 1)) 16 := by
  rw [numB_xorL (digB_byt _ _) (qB_byt hL q) (by rw [digB_len, qB_len h]), digB_num _ (qS_lt hX L q), qS_step X h]
set_option maxRecDepth 100000 in
set_option maxHeartbeats 4000000 in
theorem rsum_any (H : List Nat) (aA tA : Option Addr) (an ac tn tc : Nat) (aad text : List Nat) (w : World) (hH : Byt H) (lH : H.length = 16) (ia : IsB w aA an ac aad) (it : IsB w tA tn tc text) (ha : an ≤ 1000000) (ht : tn ≤ 1000000) :
    Calls Tryz.prog 280 #[.agg (bts H), .slice aA an ac, .slice tA tn tc] w fun e w' => e = .returned (.agg (bts (sumB H aad text))) ∧ Below w.heap.size w w' := by
  obtain ⟨i0, hi0, hz0, hz1, hz2⟩ := info_parts infoU8
  have la := ia.len
  have lt := it.len
  have hX := numB_lt16 hH lH
  have hof : ∀ W, Calls Tryz.prog 278 #[.int .u64 (8 * (an : Int)), .int .i64 8] W fun e w' => e = .returned (.tuple #[.slice (some ⟨W.heap.size, 0, none⟩) 8 8, .bool (decide (8 * an < 256 ^ 8))]) ∧ Bk w' W.heap.size 5 (digB (8 * an) 8) ∧ Below W.heap.size W w' := fun W => of_any (8 * an) 8 W (by omega) (by decide) (by decide)
  have hot : ∀ W, Calls Tryz.prog 278 #[.int .u64 (8 * (tn : Int)), .int .i64 8] W fun e w' => e = .returned (.tuple #[.slice (some ⟨W.heap.size, 0, none⟩) 8 8, .bool (decide (8 * tn < 256 ^ 8))]) ∧ Bk w' W.heap.size 5 (digB (8 * tn) 8) ∧ Below W.heap.size W w' := fun W => of_any (8 * tn) 8 W (by omega) (by decide) (by decide)
  obtain ⟨M, hM⟩ := allB_len aad text
  have hle := allB_le aad text
  have hby := allB_byt ia.2 it.2
  have hfa := full_le aad
  have hft := full_le text
  have hS : sumB H aad text = digB (qS (numB H) (allB aad text) M) 16 := by
    rw [sumB, allB_sum _ (by omega) (by omega), qS, ← hM, List.take_of_length_le (Nat.le_refl _)]
  rw [hS]
  have hstep := fun q (h : q < M) => qS_bytes hX hby (q := q) (by omega)
  have hblen := fun q (h : q < M) => qB_len (L := allB aad text) (q := q) (by omega)
  have hbbyt := fun q => qB_byt hby q
  have hall : full aad ++ full text ++ digB (8 * an) 8 ++ digB (8 * tn) 8 = allB aad text := by rw [allB, la, lt]
  have mul4 := fun (x : List Nat) (hx : Byt x) (lx : x.length = 16) W => mul4_any x H hx lx hH lH W
  have S0 : Hid (Bk ((w.alloc (.cells (bts H) 365)).alloc (.cells (bts z16) 365)) w.heap.size 365 H) := Lib.hid ((Bk.newAt _ H rfl).alloc _)
  have S1 : Hid (Bk ((w.alloc (.cells (bts H) 365)).alloc (.cells (bts z16) 365)) (w.heap.size + 1) 365 z16) := Lib.hid (Bk.newAt _ z16 (by simp))
  have S2 : Hid (Below w.heap.size w ((w.alloc (.cells (bts H) 365)).alloc (.cells (bts z16) 365))) := Lib.hid (((Below.refl _ _).alloc (Nat.le_refl _) _).alloc (Nat.le_of_lt (by simp)) _)
  have hq0 : qS (numB H) (allB aad text) 0 = 0 := by rw [qS, Nat.mul_zero, List.take_zero, absorb_nil]
  have LH := Lib.hid lH
  have IA := Lib.hid ia
  have IT := Lib.hid it
  have HOF := Lib.hid hof
  have HOT := Lib.hid hot
  have HM := Lib.hid hM
  have HLE := Lib.hid hle
  have HBY := Lib.hid hby
  have HFA := Lib.hid hfa
  have HFT := Lib.hid hft
  have HST := Lib.hid hstep
  have HBL := Lib.hid hblen
  have HBB := Lib.hid hbbyt
  have HAL := Lib.hid hall
  have HMU := Lib.hid mul4
  have HQ0 := Lib.hid hq0
  have LA := Lib.hid la
  have LT := Lib.hid lt
  have HA := Lib.hid ha
  have HT := Lib.hid ht
  obtain ⟨ma1, ma2⟩ := show IntKind.u64.wrap (an : Int) = (an : Int) ∧ IntKind.u64.wrap (8 * (an : Int)) = 8 * (an : Int) from ⟨wrap_u64' (n := an) (by omega) _ (by omega) (by omega), wrap_u64' (n := 8 * an) (by omega) _ (by omega) (by omega)⟩
  obtain ⟨mt1, mt2⟩ := show IntKind.u64.wrap (tn : Int) = (tn : Int) ∧ IntKind.u64.wrap (8 * (tn : Int)) = 8 * (tn : Int) from ⟨wrap_u64' (n := tn) (by omega) _ (by omega) (by omega), wrap_u64' (n := 8 * tn) (by omega) _ (by omega) (by omega)⟩
  clear la lt hof hot hM hle hby hfa hft hS hstep hblen hbbyt hall mul4 hq0 ia it ha ht hX
  go_enter Tryz.func280, Tryz.ntmps280
  go_wp2_with fail
  change Calls Tryz.prog 329 #[.slice aA an ac] ((w.alloc (.cells (bts H) 365)).alloc (.cells (bts z16) 365)) _
  obtain ⟨W0, hW0⟩ : ∃ W0, W0 = (w.alloc (.cells (bts H) 365)).alloc (.cells (bts z16) 365) := ⟨_, rfl⟩
  rw [← hW0] at S0 S1 S2 ⊢
  clear hW0
  refine (full_any aA an ac aad W0 (IA.out.ab S2.out) (by have := HA.out; omega)).mono ?_
  rintro e w1 ⟨v1, rfl, hv1, hb1⟩
  have V1 := Lib.hid hv1
  have B1 := Lib.hid hb1
  clear hv1 hb1
  go_wp2_with fail
  refine (full_any tA tn tc text w1 ((IT.out.ab S2.out).ab B1.out) (by have := HT.out; omega)).mono ?_
  rintro e w2 ⟨v2, rfl, hv2, hb2⟩
  obtain ⟨A2, c2, rfl, -, -⟩ := hv2.shape
  have V2 := Lib.hid (V1.out.ab hb2)
  have I2 := Lib.hid (hv2.isB rfl)
  have B2 := Lib.hid (below_tr B1.out hb2 B1.out.size)
  clear hv2 hb2 V1 B1
  go_wp2_with (refine wpList_appB _ rfl (.tmp 18) (.tmp 20) rfl Tryz.underlying22 hi0 hz0 hz1 hz2 rfl V2.out rfl I2.out rfl (by have := HFA.out; have := HFT.out; have := LA.out; have := LT.out; have := HA.out; have := HT.out; omega) B2.out.size ?_
               intro v3 w3 hv3 hb3 hg3 hat3
               have V3 := Lib.hid hv3
               have B3 : Hid (Below W0.heap.size W0 w3) := Lib.hid (B2.out.trans hb3)
               have L3 : Hid (∀ g, v3.ownBlock = some g → g < w3.heap.size) := Lib.hid (fun g hg => (hv3.lt g hg).2)
               clear hv3 hb3 hg3 hat3)
  refine (HOF.out w3).mono ?_
  rintro e w4 ⟨rfl, hk4, hb4⟩
  have K4 := Lib.hid (isB_whole hk4 (digB_byt _ _) (digB_len _ _) (by decide : 8 ≤ 9223372036854775807))
  have V4 := Lib.hid (V3.out.ab hb4)
  have B4 := Lib.hid (below_tr B3.out hb4 B3.out.size)
  have G4 := Lib.hid hk4.lt
  generalize w3.heap.size = g4 at *
  clear hk4 hb4 V3 B3
  go_wp2_with fail
  refine (HOT.out w4).mono ?_
  rintro e w5 ⟨rfl, hk5, hb5⟩
  have O5 : Hid (OwB w5 w4.heap.size (.slice (some ⟨w4.heap.size, 0, none⟩) 8 8) (digB (8 * tn) 8)) := Lib.hid (OwB.ofBk hk5 (Nat.le_refl _) (digB_len _ _) (Nat.le_refl _) (digB_len _ _) (by decide) (List.take_of_length_le (by rw [digB_len]; exact Nat.le_refl _)) (digB_byt _ _))
  have K5 := Lib.hid (K4.out.ab hb5)
  have V5 := Lib.hid (V4.out.ab hb5)
  have B5 := Lib.hid (below_tr B4.out hb5 B4.out.size)
  have G5 : Hid (g4 < w4.heap.size) := Lib.hid G4.out
  generalize w4.heap.size = g5 at *
  clear hk5 hb5 V4 B4 K4 G4
  go_wp2_with (first
    | (refine wpList_appB _ rfl (.tmp 38) (.tmp 39) rfl Tryz.underlying22 hi0 hz0 hz1 hz2 rfl V5.out rfl K5.out rfl (by rw [List.length_append]; have := HFA.out; have := HFT.out; have := LA.out; have := LT.out; have := HA.out; have := HT.out; omega) B5.out.size ?_
       intro v6 w6 hv6 hb6 hg6 hat6
       have V6 := Lib.hid hv6
       have B6 : Hid (Below W0.heap.size W0 w6) := Lib.hid (B5.out.trans hb6)
       have K6 := Lib.hid ((O5.out.kept hg6 (.inr (fun e => by have h1 := L3.out g5 e.symm; have h2 := G5.out; omega))).isB (digB_len _ _))
       clear hv6 hb6 hg6 hat6)
    | (refine wpList_appB _ rfl (.tmp 41) (.tmp 42) rfl Tryz.underlying22 hi0 hz0 hz1 hz2 rfl V6.out rfl K6.out rfl (by rw [List.length_append, List.length_append, digB_len]; have := HFA.out; have := HFT.out; have := LA.out; have := LT.out; have := HA.out; have := HT.out; omega) B6.out.size ?_
       intro v7 w7 hv7 hb7 hg7 hat7
       rw [HAL.out] at hv7
       obtain ⟨A7, c7, rfl, -, -⟩ := hv7.shape
       have V7 := Lib.hid hv7
       have B7 : Hid (Below W0.heap.size W0 w7) := Lib.hid (B6.out.trans hb7)
       clear hv7 hb7 hg7 hat7))
  have Z0 : Hid (RsSt w.heap.size w7.heap.size w (w7.alloc (.cells (bts z16) 365)) H A7 (allB aad text).length c7 (allB aad text) (digB (qS (numB H) (allB aad text) 0) 16)) := Lib.hid (by
    have hs := B7.out.size
    have hr := S1.out.lt
    refine ⟨(S0.out.ab B7.out).alloc _, (S1.out.ab B7.out).alloc _, ?_, (V7.out.isB rfl).alloc _, (below_tr S2.out B7.out S2.out.size).alloc (below_tr S2.out B7.out S2.out.size).size _, by omega, fun x hx => ?_⟩
    · rw [HQ0.out]
      exact Bk.newAt _ z16 rfl
    · subst hx
      exact (V7.out.lt _ rfl).2)
  have HG : Hid (w7.heap.size < (w7.alloc (.cells (bts z16) 365)).heap.size) := Lib.hid (by simp)
  have hN := HLE.out
  have hNM := HM.out
  have hNB : ((allB aad text).length : Int) ≤ 3000000 := by have := LA.out; have := LT.out; have := HA.out; have := HT.out; omega
  clear S0 S1 S2 IA IT HOF HOT HFA HFT HAL HQ0 V7 B7 hN HLE K5 V5 B5 O5 L3 G5 V6 B6 K6 V2 I2 B2 LA LT HA HT ma1 ma2 mt1 mt2
  have hla : 0 < 1 := by decide
  generalize w7.heap.size = gs at *
  generalize hLL : allB aad text = L at *
  generalize hNN : L.length = N at *
  have HNN := Lib.hid hNN
  have HLL := Lib.hid hLL
  have HNM := Lib.hid hNM
  clear hLL hNN hNM HM hla
  go_wp2_with fail
  go_loopw [13, 14, 15] (fun j _ _ wr => ∃ i q : Nat, i = 16 * q ∧ q ≤ M ∧ j = .int .i64 i ∧ RsSt w.heap.size gs w wr H A7 N c7 L (digB (qS (numB H) L q) 16)) (fun j _ _ _ => N - (intOf j).toNat)
  case atStart => exact ⟨0, 0, rfl, Nat.zero_le _, rfl, Z0.out⟩
  case round =>
    obtain ⟨i, q, hiq, hqM, rfl, hst⟩ := hrel
    clear Z0
    by_cases hlt : q < M
    · have hii : (i : Int) < (N : Int) := by have := HNM.out; omega
      have HI := Lib.hid hiq
      have HL := Lib.hid hlt
      have HS := Lib.hid hst
      have IX : Hid (RsSt w.heap.size gs w (wr.alloc (.cells (bts z16) 365)) H A7 N c7 L (digB (qS (numB H) L q) 16)) := Lib.hid (hst.alloc _)
      have XB : Hid (Bk (wr.alloc (.cells (bts z16) 365)) wr.heap.size 365 (upd (at' (qB L q)) z16 0)) := Lib.hid (by rw [upd_zero]; exact Bk.newAt _ z16 rfl)
      have XG : Hid (gs < wr.heap.size) := Lib.hid hst.sb.lt
      have hib : (i : Int) ≤ 3000000 := by omega
      clear hiq hlt hqM hst HS
      go_wp2_with fail
      have hNB2 := hNB
      generalize wr.heap.size = gx at *
      go_loopw [15] (fun k ws => ∃ m : Nat, m ≤ 16 ∧ k = .int .i64 m ∧ Bk ws gx 365 (upd (at' (qB L q)) z16 m) ∧ RsSt w.heap.size gs w ws H A7 N c7 L (digB (qS (numB H) L q) 16)) (fun k _ => 16 - (intOf k).toNat)
      case atStart => exact ⟨0, Nat.zero_le _, rfl, XB.out, IX.out⟩
      case round =>
        obtain ⟨m, hm, rfl, hx, hst⟩ := hrel
        clear XB IX
        by_cases hmt : m < 16
        · have hmi : (m : Int) < 16 := by omega
          have hmb : (i : Int) + (m : Int) < (N : Int) := by have := HNM.out; have := HI.out; have := HL.out; omega
          obtain ⟨x, rfl, hxb, hxc⟩ := hst.ib.cell (by omega)
          have hcl := hxc (i + m) (by omega)
          have hat : at' (qB L q) m = at' L (i + m) := by rw [HI.out]; exact qB_at hmt
          have hv := hst.ib.2.at' (i + m)
          have hoc := hx.cell (k := m) (by rw [upd_len]; exact hmt)
          have hof := hx.free m
          have hnx := hx.set m (at' (qB L q) m)
          rw [upd_step (at' (qB L q)) z16 m (by exact hmt), hat] at hnx
          rw [← hat] at hnx
          generalize (upd (at' (qB L q)) z16 m)[m]?.getD 0 = u0 at hoc
          have N1 := Lib.hid hnx
          have N2 := Lib.hid (hst.far_cell (j := m) XG.out (.int .u8 (at' L (i + m) : Nat)))
          rw [hat] at N1
          generalize at' L (i + m) = v at *
          clear hnx hat hx hst hxc
          go_wp2_with fail
          go_roundw
          case rel => exact ⟨m + 1, by omega, by go_num, N1.out, N2.out⟩
          case measure => simp [intOf]; omega
        · obtain rfl : m = 16 := by omega
          have hq : upd (at' (qB L q)) z16 16 = qB L q := by
            have h16 := HBL.out q HL.out
            refine at'_ext (by rw [upd_len, h16]; rfl) fun j hj => ?_
            rw [upd_len] at hj
            show (upd (at' (qB L q)) z16 16)[j]?.getD 0 = _
            rw [upd_get _ _ _ _ hj, if_pos (by exact hj)]
          rw [hq] at hx
          have X1 := Lib.hid hx
          have X2 := Lib.hid hst
          have XB := HBB.out q
          have XL := HBL.out q HL.out
          have XT := Lib.hid (HST.out q HL.out)
          have SB : Byt (digB (qS (numB H) L q) 16) := digB_byt _ _
          have SL : (digB (qS (numB H) L q) 16).length = 16 := digB_len _ _
          clear hx hst hq
          generalize qB L q = bq at *
          generalize digB (qS (numB H) L q) 16 = S at *
          have HXB := Lib.hid XB
          have HXL := Lib.hid XL
          have HSB := Lib.hid SB
          have HSL := Lib.hid SL
          clear XB XL SB SL
          go_wp2_with fail
          refine wp_free2 [⟨62, IsR (.agg (bts S)), [], false⟩, ⟨63, IsR (.agg (bts bq)), [], false⟩, ⟨64, IsR (.agg (bts (xorL S bq))), [0, 1], false⟩, ⟨65, IsR (.agg (bts H)), [], false⟩, ⟨66, IsR (.agg (bts (digB (hmul (numB (xorL S bq)) (numB H)) 16))), [2, 3], false⟩] (by kernel_rfl) (by kernel_rfl) rfl rfl rfl ⟨?_, ?_, ?_, ?_, ?_, trivial⟩ ?_
          · exact ⟨rfl, rfl, IsR.mono _, fun a W hA hb _ => yields_value _ (exec_loadB 365 (.tmp 12) rfl gs (by rw [hA.eval (by simp)]; rfl) (X2.out.sb.ab hb) Tryz.underlying365 (by rw [HSL.out]; exact sz16)) rfl⟩
          · exact ⟨rfl, rfl, IsR.mono _, fun a W hA hb _ => yields_value _ (exec_loadB 365 (.tmp 14) rfl gx (by rw [hA.eval (by simp)]; rfl) (X1.out.ab hb) Tryz.underlying365 (by rw [HXL.out]; exact sz16)) rfl⟩
          · refine ⟨rfl, rfl, IsR.mono _, fun a W hA hb hd => ?_⟩
            have h0 : a.tmps[62]?.getD undef = .agg (bts S) := (eval_get a 62).trans (hd 0 (by simp) _ rfl)
            have h1 : a.tmps[63]?.getD undef = .agg (bts bq) := (eval_get a 63).trans (hd 1 (by simp) _ rfl)
            exact yields_call 281 #[.agg (bts S), .agg (bts bq)] (by go_simp) ((add4_any S bq HSB.out HSL.out HXB.out HXL.out W).mono fun e W' hh => ⟨_, hh.1, rfl, hh.2⟩)
          · exact ⟨rfl, rfl, IsR.mono _, fun a W hA hb _ => yields_value _ (exec_loadB 365 (.tmp 3) rfl w.heap.size (by rw [hA.eval (by simp)]; rfl) (X2.out.hb.ab hb) Tryz.underlying365 (by rw [LH.out]; exact sz16)) rfl⟩
          · refine ⟨rfl, rfl, IsR.mono _, fun a W hA hb hd => ?_⟩
            have h0 : a.tmps[64]?.getD undef = .agg (bts (xorL S bq)) := (eval_get a 64).trans (hd 2 (by simp) _ rfl)
            have h1 : a.tmps[65]?.getD undef = .agg (bts H) := (eval_get a 65).trans (hd 3 (by simp) _ rfl)
            exact yields_call 330 #[.agg (bts (xorL S bq)), .agg (bts H)] (by go_simp) ((HMU.out (xorL S bq) (xorL_byt HSB.out HXB.out) (by rw [xorL_len, HSL.out, HXL.out]; rfl) W).mono fun e W' hh => ⟨_, hh.1, rfl, hh.2⟩)
          · intro vs W hR hF hb
            have e62 : vs 62 = .agg (bts S) := hR 0 _ rfl
            have e63 : vs 63 = .agg (bts bq) := hR 1 _ rfl
            have e64 : vs 64 = .agg (bts (xorL S bq)) := hR 2 _ rfl
            have e65 : vs 65 = .agg (bts H) := hR 3 _ rfl
            have e66 : vs 66 = .agg (bts (digB (hmul (numB (xorL S bq)) (numB H)) 16)) := hR 4 _ rfl
            rw [XT.out] at e66
            simp only [List.map_cons, List.map_nil, List.foldl_cons, List.foldl_nil, List.length_cons, List.length_nil, List.drop_succ_cons, List.drop_zero, Act.put, List.setIfInBounds_toArray, List.set_cons_zero, List.set_cons_succ, e62, e63, e64, e65, e66]
            have NL : Hid ((digB (qS (numB H) L (q + 1)) 16).length = 16) := Lib.hid (digB_len _ _)
            have Y2 := Lib.hid (X2.out.ab hb)
            clear hR hF hb e62 e63 e64 e65 e66
            refine wpList_storeN (l := S) rfl 365 (.tmp 12) (.tmp 66) rfl gs rfl (digB (qS (numB H) L (q + 1)) 16) rfl (t := 365) Y2.out.sb (by rw [NL.out]; exact sz16) (by rw [NL.out, HSL.out]) ?_
            intro W1 hW1
            have Y3 : Hid (RsSt w.heap.size gs w W1 H A7 N c7 L (digB (qS (numB H) L (q + 1)) 16)) := Lib.hid (by rw [hW1]; exact Y2.out.sum _)
            clear hW1
            go_wp2_with fail
            go_roundw
            case rel => exact ⟨i + 16, q + 1, by have := HI.out; omega, by have := HL.out; omega, by go_num, Y3.out⟩
            case measure => simp [intOf]; omega
    · obtain rfl : q = M := by omega
      have hii : ¬ (i : Int) < (N : Int) := by have := HNM.out; omega
      have hdd : decide ((i : Int) < (N : Int)) = false := decide_eq_false hii
      have NL : Hid ((digB (qS (numB H) L q) 16).length = 16) := Lib.hid (digB_len _ _)
      have HS := Lib.hid hst
      clear hst
      go_wp2_with (refine wpList_loadB (l := digB (qS (numB H) L q) 16) (o := ⟨some 67, _, _, _, _, _⟩) rfl 365 (.tmp 12) rfl gs rfl (t := 365) ?_ Tryz.underlying365 (by rw [NL.out]; exact sz16) ?_
                   · exact HS.out.sb
                   refine wpList_storeB (l := z16) (o := ⟨none, .store _ (.tmp 6) (.tmp 67), _, _, _, _⟩) rfl 365 (.tmp 6) (.tmp 67) rfl (w.heap.size + 1) rfl (digB (qS (numB H) L q) 16) rfl (t := 365) ?_ (by rw [NL.out]; exact sz16) (by rw [NL.out]; rfl) ?_
                   · exact HS.out.rb)
      refine bodyPost_ret (results_bts Tryz.results280 _ _ _ rfl (HS.out.rb.row (digB (qS (numB H) L q) 16)) Tryz.underlying365 (by rw [NL.out]; exact sz16)) rfl ?_
      exact ⟨by rw [HLL.out], Below.row HS.out.below (by omega) _⟩
end Go.Proofs.YtakgebbeknfplaaGreat
