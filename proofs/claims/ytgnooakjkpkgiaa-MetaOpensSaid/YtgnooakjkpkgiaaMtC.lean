/-
  META PAGES: the reference's payload: walks of RefBytes and Bytes.
-/
import Derived.Test.YtgnooakjkpkgiaaMtB
namespace Go.Proofs.Ytgnooakjkpkgiaa
open Go.RowKit
set_option linter.unusedVariables false

theorem dig_own {w : World} {B g m n : Nat} (h : Bk w g 5 (digB m n)) (hB : B ≤ g) (hn : n ≤ 8) : OwB w B (.slice (some ⟨g, 0, none⟩) n n) (digB m n) :=
  OwB.ofBk h hB (digB_len _ _) (Nat.le_refl _) (digB_len _ _) (by omega) (List.take_of_length_le (by rw [digB_len]; omega)) (digB_byt _ _)
def refBy (p c g : Nat) : List Nat := digB p 4 ++ digB c 8 ++ digB g 2
theorem refBy_len (p c g : Nat) : (refBy p c g).length = 14 := by simp [refBy, digB_len]
set_option maxRecDepth 100000 in
set_option maxHeartbeats 4000000 in
theorem rrefBytes_any (p c g : Nat) (w : World) (hp : p < 4294967296) (hc : c < 18446744073709551616) (hg : g < 65536) :
    Calls Try.prog 105 #[.agg #[.int .u32 (p : Int), .int .u64 (c : Int), .int .u16 (g : Int)]] w fun e w' => ∃ v, e = .returned v ∧ OwB w' w.heap.size v (refBy p c g) ∧ Below w.heap.size w w' := by
  obtain ⟨i0, hi0, hz0, hz1, hz2⟩ := info_parts infoU8
  have z1 : IntKind.u64.wrap (p : Int) = (p : Int) := wide_u64 p (by omega)
  have z2 : IntKind.u64.wrap (g : Int) = (g : Int) := wide_u64 g (by omega)
  have P1 := Lib.hid fun W => of_any p 4 W (by omega) (by decide) (by decide)
  have P2 := Lib.hid fun W => of_any c 8 W hc (by decide) (by decide)
  have P3 := Lib.hid fun W => of_any g 2 W (by omega) (by decide) (by decide)
  have RE : Hid (refBy p c g = digB p 4 ++ digB c 8 ++ digB g 2) := Lib.hid rfl
  have R0 : Hid (CbB (w.alloc (.cells #[.int .u32 (p : Int), .int .u64 (c : Int), .int .u16 (g : Int)] 44)) w.heap.size 44 #[.int .u32 (p : Int), .int .u64 (c : Int), .int .u16 (g : Int)]) := Lib.hid (CbB.new _ _ _)
  have B0 : Hid (Below w.heap.size w (w.alloc (.cells #[.int .u32 (p : Int), .int .u64 (c : Int), .int .u16 (g : Int)] 44))) := Lib.hid ((Below.refl _ _).alloc (Nat.le_refl _) _)
  generalize refBy p c g = RB at *
  clear hp hc hg
  go_enter Try.func105, Try.ntmps105
  go_wp2_with fail
  refine (P1.out _).mono ?_
  rintro e w1 ⟨rfl, hk, hb⟩
  have O1 : Hid (OwB w1 w.heap.size (.slice (some ⟨w.heap.size + 1, 0, none⟩) 4 4) (digB p 4)) := Lib.hid (by
    have := dig_own (B := w.heap.size) hk (by simp) (by decide)
    simpa using this)
  have R1 := Lib.hid (R0.out.ab hb)
  have B1 := Lib.hid (below_tr B0.out hb B0.out.size)
  have c1 := R1.out.cell (k := 1) rfl
  have c2 := R1.out.cell (k := 2) rfl
  rw [show (w.alloc (.cells #[.int .u32 (p : Int), .int .u64 (c : Int), .int .u16 (g : Int)] 44)).heap.size = w.heap.size + 1 by simp]
  clear hk hb R0 B0
  go_wp2_with fail
  refine (P2.out _).mono ?_
  rintro e w2 ⟨rfl, hk, hb⟩
  have O2 : Hid (IsB w2 (some ⟨w1.heap.size, 0, none⟩) 8 8 (digB c 8)) := Lib.hid (isB_whole hk (digB_byt _ _) (digB_len _ _) (by decide))
  have O12 := Lib.hid (O1.out.ab hb)
  have D2 : Hid (w.heap.size + 1 < w2.heap.size) := Lib.hid (Nat.lt_of_lt_of_le (O1.out.lt _ rfl).2 hb.size)
  have R2 := Lib.hid (R1.out.ab hb)
  have B2 := Lib.hid (below_tr B1.out hb B1.out.size)
  clear hk hb R1 B1 O1 c1 c2
  have c2 := R2.out.cell (k := 2) rfl
  go_wp2_with fail
  refine (P3.out _).mono ?_
  rintro e w3 ⟨rfl, hk, hb⟩
  have O3 : Hid (IsB w3 (some ⟨w2.heap.size, 0, none⟩) 2 2 (digB g 2)) := Lib.hid (isB_whole hk (digB_byt _ _) (digB_len _ _) (by decide))
  have O23 := Lib.hid (O2.out.ab hb)
  have O13 := Lib.hid (O12.out.ab hb)
  have B3 := Lib.hid (below_tr B2.out hb B2.out.size)
  clear hk hb R2 B2 O2 O12 c2
  go_wp2_with (first
    | (refine wpList_appB _ rfl (.tmp 29) (.tmp 30) rfl Try.underlying27 hi0 hz0 hz1 hz2 rfl O13.out rfl O23.out rfl (by rw [digB_len]; decide) B3.out.size ?_
       intro v4 w4 hv4 hb4 hg4 hat4
       have V4 := Lib.hid hv4
       have B4 := Lib.hid (B3.out.trans hb4)
       have O34 : Hid (IsB w4 (some ⟨w2.heap.size, 0, none⟩) 2 2 (digB g 2)) := Lib.hid (by
         refine ⟨O3.out.1.grown hg4 fun x hx => ?_, O3.out.2⟩
         injection hx with hx
         subst hx
         simp only [Value.ownBlock, ne_eq, Option.some.injEq]
         have := D2.out
         omega)
       clear hv4 hb4 hg4 hat4)
    | (refine wpList_appB _ rfl (.tmp 32) (.tmp 33) rfl Try.underlying27 hi0 hz0 hz1 hz2 rfl V4.out rfl O34.out rfl (by rw [List.length_append, digB_len, digB_len]; decide) B4.out.size ?_
       intro v5 w5 hv5 hb5 hg5 hat5
       rw [← RE.out] at hv5
       have V5 := Lib.hid hv5
       have B5 := Lib.hid (B4.out.trans hb5)
       clear hv5 hb5 hg5 hat5))
  go_ret
  exact ⟨_, rfl, V5.out, B5.out⟩
theorem cut_own {w : World} {B : Nat} {v : Value} {l : List Nat} {n : Nat} (h : OwB w B v l) (hl : l.length = n) (h0 : 0 < n) : ∃ g c, v = .slice (some ⟨g, 0, none⟩) n c ∧ IsB w (some ⟨g, 0, none⟩) n c l := by
  obtain ⟨g, c, rfl, -⟩ := h.form (by omega)
  rw [hl] at h ⊢
  exact ⟨g, c, rfl, h.isB hl⟩
/-- how long a slice is -/
def lenW : Value → Nat
  | .slice _ n _ => n
  | _ => 0
theorem zeros_snoc (n : Nat) : zeros n ++ [0] = zeros (n + 1) := by
  unfold zeros
  rw [List.replicate_succ']
theorem fldM_flat (m : Mp) : flatN (fldM m) = digB m.cm 8 ++ refBy m.pg m.rc m.rg ++ digB m.lv 1 ++ digB m.gn 2 ++ digB m.tn 4 := by
  simp only [fldM, flatN, refBy, List.append_nil, List.append_assoc]
theorem digB_1 {k : Nat} (h : k < 256) : digB k 1 = [k] := by
  simp [digB]
  omega
set_option maxRecDepth 100000 in
set_option maxHeartbeats 4000000 in
theorem rbytes_any (m : Mp) (w : World) (hm : m.Ok) :
    Calls Try.prog 56 #[.agg (mpv m)] w fun e w' => ∃ v, e = .returned v ∧ OwB w' w.heap.size v (mbytes m) ∧ Below w.heap.size w w' := by
  obtain ⟨i0, hi0, hz0, hz1, hz2⟩ := info_parts infoU8
  have z1 : IntKind.u64.wrap (m.gn : Int) = (m.gn : Int) := wide_u64 m.gn (by have := hm.gn; omega)
  have z2 : IntKind.u64.wrap (m.tn : Int) = (m.tn : Int) := wide_u64 m.tn (by have := hm.tn; omega)
  have P1 := Lib.hid fun W => of_any m.cm 8 W hm.cm (by decide) (by decide)
  have P2 := Lib.hid fun W => rrefBytes_any m.pg m.rc m.rg W hm.pg hm.rc hm.rg
  have P3 := Lib.hid fun W => of_any m.gn 2 W (by have := hm.gn; omega) (by decide) (by decide)
  have P4 := Lib.hid fun W => of_any m.tn 4 W (by have := hm.tn; omega) (by decide) (by decide)
  have LE : Hid (mbytes m = (digB m.cm 8 ++ refBy m.pg m.rc m.rg ++ [m.lv] ++ digB m.gn 2 ++ digB m.tn 4) ++ zeros 195) := Lib.hid (by rw [mbytes, fldM_flat, digB_1 hm.lv])
  have LL : Hid ((digB m.cm 8 ++ refBy m.pg m.rc m.rg ++ [m.lv] ++ digB m.gn 2 ++ digB m.tn 4).length = 29) := Lib.hid (by simp [digB_len, refBy_len])
  have lR := Lib.hid (refBy_len m.pg m.rc m.rg)
  have LV := Lib.hid hm.lv
  have M0 := Lib.hid (MpB.new w m)
  have K0 : Hid (Below (w.heap.size + 1) (w.alloc (.cells (mpv m) 95)) (w.alloc (.cells (mpv m) 95))) := Lib.hid (Below.refl _ _)
  have HW : Hid (w.heap.size + 1 ≤ (w.alloc (.cells (mpv m) 95)).heap.size) := Lib.hid (by simp)
  have BW : Hid (∀ W, Below (w.heap.size + 1) (w.alloc (.cells (mpv m) 95)) W → Below w.heap.size w W) := Lib.hid fun W h => ((Below.refl _ _).alloc (Nat.le_refl _) _).trans (h.mono (by omega))
  have MW : Hid (∀ W, Below (w.heap.size + 1) (w.alloc (.cells (mpv m) 95)) W → MpB W w.heap.size m) := Lib.hid fun W h => M0.out.low h (by omega)
  generalize mbytes m = MB at *
  obtain ⟨cm, pg, rc, rg, lv, gn, tn⟩ := m
  simp only [mpv] at P1 P2 P3 P4 LE LL lR LV HW K0 BW MW z1 z2 ⊢
  generalize refBy pg rc rg = RB at *
  clear hm M0
  go_enter Try.func56, Try.ntmps56
  go_wp2_with fail
  refine (P1.out _).mono ?_
  rintro e w1 ⟨rfl, hk, hb⟩
  have O1 : Hid (OwB w1 (w.heap.size + 1) (.slice (some ⟨w.heap.size + 1, 0, none⟩) 8 8) (digB cm 8)) := Lib.hid (by
    have := dig_own (B := w.heap.size + 1) hk (by simp) (by decide)
    simpa using this)
  have K1 := Lib.hid (below_tr K0.out hb HW.out)
  have S1 := Lib.hid (Nat.le_trans HW.out hb.size)
  obtain ⟨c0, c1, c2, c3, c4, c5, c6⟩ := (MW.out _ K1.out).cells
  rw [show (w.alloc (.cells #[.int .u64 (cm : Int), .int .u32 (pg : Int), .int .u64 (rc : Int), .int .u16 (rg : Int), .int .u8 (lv : Int), .int .u16 (gn : Int), .int .u32 (tn : Int)] 95)).heap.size = w.heap.size + 1 by simp]
  clear hk hb K0
  go_wp2_with fail
  refine (P2.out _).mono ?_
  rintro e w2 ⟨v2, rfl, hv, hb⟩
  obtain ⟨g2, cc2, rfl, hI2⟩ := cut_own hv lR.out (by decide)
  have I2 := Lib.hid hI2
  have O2 := Lib.hid (O1.out.ab hb)
  have K2 := Lib.hid (below_tr K1.out hb S1.out)
  have S2 := Lib.hid (Nat.le_trans S1.out hb.size)
  clear hv hI2 hb K1 O1 c0 c1 c2 c3 c4 c5 c6
  go_wp2_with (first
    | (refine wpList_appB _ rfl (.tmp 15) (.tmp 19) rfl Try.underlying27 hi0 hz0 hz1 hz2 rfl O2.out rfl I2.out rfl (by simp [digB_len]) S2.out ?_
       intro v3 w3 hv3 hb3 hg3 hat3
       have V3 := Lib.hid hv3
       have K3 := Lib.hid (K2.out.trans hb3)
       have S3 := Lib.hid (Nat.le_trans S2.out hb3.size)
       obtain ⟨c0, c1, c2, c3, c4, c5, c6⟩ := (MW.out _ K3.out).cells
       clear hv3 hb3 hg3 hat3 O2 K2)
    | (refine wpList_appB _ rfl (.tmp 21) (.tmp 25) rfl Try.underlying27 hi0 hz0 hz1 hz2 rfl (V3.out.alloc _) rfl (isB_one _ lv LV.out) rfl (by simp [digB_len, lR.out]) (by have := S3.out; simp; omega) ?_
       intro v4 w4 hv4 hb4 hg4 hat4
       have V4 := Lib.hid hv4
       have K4 := Lib.hid ((K3.out.alloc S3.out _).trans hb4)
       have S4 : Hid (w.heap.size + 1 ≤ w4.heap.size) := Lib.hid (by have := hb4.size; have := S3.out; simp at *; omega)
       clear hv4 hb4 hg4 hat4 V3 K3 c0 c1 c2 c3 c4 c5 c6
       obtain ⟨c0, c1, c2, c3, c4, c5, c6⟩ := (MW.out _ K4.out).cells))
  refine (P3.out _).mono ?_
  rintro e w5 ⟨rfl, hk, hb⟩
  have I5 : Hid (IsB w5 (some ⟨w4.heap.size, 0, none⟩) 2 2 (digB gn 2)) := Lib.hid (isB_whole hk (digB_byt _ _) (digB_len _ _) (by decide))
  have V5 := Lib.hid (V4.out.ab hb)
  have K5 := Lib.hid (below_tr K4.out hb S4.out)
  have S5 := Lib.hid (Nat.le_trans S4.out hb.size)
  clear hk hb K4 V4 c0 c1 c2 c3 c4 c5 c6
  go_wp2_with (refine wpList_appB _ rfl (.tmp 34) (.tmp 35) rfl Try.underlying27 hi0 hz0 hz1 hz2 rfl V5.out rfl I5.out rfl (by simp [digB_len, lR.out]) S5.out ?_
               intro v6 w6 hv6 hb6 hg6 hat6
               have V6 := Lib.hid hv6
               have K6 := Lib.hid (K5.out.trans hb6)
               have S6 := Lib.hid (Nat.le_trans S5.out hb6.size)
               clear hv6 hb6 hg6 hat6 V5 K5
               obtain ⟨c0, c1, c2, c3, c4, c5, c6⟩ := (MW.out _ K6.out).cells)
  refine (P4.out _).mono ?_
  rintro e w7 ⟨rfl, hk, hb⟩
  have I7 : Hid (IsB w7 (some ⟨w6.heap.size, 0, none⟩) 4 4 (digB tn 4)) := Lib.hid (isB_whole hk (digB_byt _ _) (digB_len _ _) (by decide))
  have V7 := Lib.hid (V6.out.ab hb)
  have K7 := Lib.hid (below_tr K6.out hb S6.out)
  have S7 := Lib.hid (Nat.le_trans S6.out hb.size)
  clear hk hb K6 V6 c0 c1 c2 c3 c4 c5 c6
  go_wp2_with (refine wpList_appB _ rfl (.tmp 44) (.tmp 45) rfl Try.underlying27 hi0 hz0 hz1 hz2 rfl V7.out rfl I7.out rfl (by simp [digB_len, lR.out]) S7.out ?_
               intro v8 w8 hv8 hb8 hg8 hat8
               have V8 := Lib.hid hv8
               have K8 := Lib.hid (K7.out.trans hb8)
               have S8 := Lib.hid (Nat.le_trans S7.out hb8.size)
               clear hv8 hb8 hg8 hat8 V7 K7)
  have B8 := Lib.hid (BW.out _ K8.out)
  clear K8 HW BW MW P1 P2 P3 P4 z1 z2 I2 I5 I7 S1 S2 S3 S4 S5 S6 S7
  generalize (digB cm 8 ++ RB ++ [lv] ++ digB gn 2 ++ digB tn 4) = L at *
  go_loopw [3] (fun v wr => ∃ q : Nat, q ≤ 195 ∧ OwB wr (w.heap.size + 1) v (L ++ zeros q) ∧ Below w.heap.size w wr ∧ w.heap.size + 1 ≤ wr.heap.size) (fun v _ => 224 - lenW v)
  case atStart => exact ⟨0, Nat.zero_le _, by simpa [zeros] using V8.out, B8.out, S8.out⟩
  case round =>
    obtain ⟨q, hq, ho, kb, hs⟩ := hrel
    obtain ⟨A, cap, rfl, _, _⟩ := ho.shape
    have hl : (L ++ zeros q).length = 29 + q := by rw [List.length_append, LL.out, zeros_len]
    rw [hl] at ho ⊢
    by_cases hlt : q < 195
    · have hc : decide (((29 + q : Nat) : Int) < 224) = true := by simp; omega
      have hc2 : decide (29 + (q : Int) < 224) = true := by simp; omega
      have OO := Lib.hid ho
      have KB := Lib.hid kb
      have HS := Lib.hid hs
      have HQ := Lib.hid hlt
      have HLL := Lib.hid hl
      clear ho kb hs hlt hq hl
      go_wp2_with (refine wpList_appB _ rfl (.tmp 50) (.tmp 51) rfl Try.underlying27 hi0 hz0 hz1 hz2 rfl (OO.out.alloc _) rfl (isB_one _ 0 (by decide)) rfl (by rw [HLL.out]; have := HQ.out; omega) (by have := HS.out; simp; omega) ?_
                   intro v4 w4 hv4 hb4 hg4 hat4
                   rw [List.append_assoc, zeros_snoc] at hv4
                   have V4 := Lib.hid hv4
                   have K4 := Lib.hid ((KB.out.alloc KB.out.size _).trans (hb4.mono (by omega)))
                   have S4 : Hid (w.heap.size + 1 ≤ w4.heap.size) := Lib.hid (by have := hb4.size; have := HS.out; simp at *; omega)
                   clear hv4 hb4 hg4 hat4)
      go_roundw
      case rel => exact ⟨q + 1, HQ.out, V4.out, K4.out, S4.out⟩
      case measure =>
        obtain ⟨A', cap', rfl, _, _⟩ := V4.out.shape
        have := HQ.out
        simp only [lenW, List.length_append, LL.out, zeros_len]
        omega
    · obtain rfl : q = 195 := by omega
      have hc : decide (((29 + 195 : Nat) : Int) < 224) = false := by decide
      rw [← LE.out] at ho
      have OO := Lib.hid ho
      have KB := Lib.hid kb
      clear ho kb hs hlt hq hl
      go_wp2_with fail
      go_ret
      exact ⟨_, rfl, OO.out.lower (by omega), KB.out⟩
end Go.Proofs.Ytgnooakjkpkgiaa
