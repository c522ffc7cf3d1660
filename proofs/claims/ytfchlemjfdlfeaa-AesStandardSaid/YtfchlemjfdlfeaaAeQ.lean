/-
  WALKS: the reference's Decrypt.
-/
import Derived.Test.YtfchlemjfdlfeaaAeP
namespace Go.Proofs.Ytfchlemjfdlfeaa
open Go.RowKit
set_option linter.unusedVariables false

set_option maxRecDepth 100000 in
set_option maxHeartbeats 8000000 in
theorem rDec_any (K R n : Nat) (l x : List Nat) (A : Option Addr) (c : Nat) (w : World) (hK : K = 4 ∨ K = 8) (hR : R = K + 6) (hn : n = 4 * K) (hin : IsB w A n c l) (hx : Byt x) (lx : x.length = 16) :
    Calls Try.prog 28 #[.slice A n c, .agg (bts x)] w fun e w' => e = .returned (.agg (bts (decK (wordsAll K l) R x))) ∧ Below w.heap.size w w' := by
  have hNR : IntKind.i64.wrap ((n : Int) / 4) = (K : Int) := by rw [IntWalk.i64_in _ (by omega)]; omega
  have hKR : (K : Int) + 6 = (R : Int) := by omega
  have hR0 : 10 ≤ R := by omega
  have hR1 : R ≤ 14 := by omega
  have hwl := wordsAll_len l hK hR (by rw [hin.len, hn])
  have hw : ∀ W, IsB W A n c l → _ := fun W h => rwords_any K R n l A c W hK hR hn h
  have hwb := (wordsAll_exp (k := K) (key := l) hK (by rw [hin.len, hn]) hin.2).byt
  generalize wordsAll K l = W at hwl hw hwb ⊢
  have HIN := Lib.hid hin
  have HWL := Lib.hid hwl
  have HW := Lib.hid hw
  have LX := Lib.hid lx
  have hb0 : Below w.heap.size w ((w.alloc (.cells (bts x) 35)).alloc (.cells (bts z16) 35)) := ((Below.refl _ _).alloc (Nat.le_refl _) _).alloc (by simp) _
  have hbx : Bk ((w.alloc (.cells (bts x) 35)).alloc (.cells (bts z16) 35)) w.heap.size 35 x := (Bk.newAt _ x rfl).alloc _
  have hbr : Bk ((w.alloc (.cells (bts x) 35)).alloc (.cells (bts z16) 35)) (w.heap.size + 1) 35 z16 := Bk.newAt _ z16 (by simp)
  have HB0 := Lib.hid hb0
  have HBX := Lib.hid hbx
  have HBR := Lib.hid hbr
  clear hin hwl hw lx hK hR hn hb0 hbx hbr
  go_enter Try.func28, Try.ntmps28
  go_wp2_with fail
  refine (HW.out _ (HIN.out.below HB0.out)).mono ?_
  rintro e w1 ⟨gW, cW, rfl, hgW, hcW, hcW2, how, hb1⟩
  have hrw : Rw w1 gW W := ⟨(how.lt gW rfl).2, how.rw⟩
  have hgW2 : w.heap.size + 2 ≤ gW := by simpa using hgW
  have hbw1 : Below w.heap.size w w1 := HB0.out.trans (hb1.mono (by simp; omega))
  have HBX1 := Lib.hid (HBX.out.below hb1 (Nat.lt_of_lt_of_le HBX.out.lt (Nat.le_refl _)))
  have HBR1 := Lib.hid (HBR.out.below hb1 (Nat.lt_of_lt_of_le HBR.out.lt (Nat.le_refl _)))
  have HRW := Lib.hid hrw
  have HBW := Lib.hid hbw1
  clear how hb1 hrw hgW hbw1 HBX HBR HB0

  have hst : RSt w.heap.size w1.heap.size gW w ((w1.alloc (.cells (bts z16) 35)).setRow w1.heap.size (bts x)) x W := by
    have hs1 := HRW.out.lt
    have hs2 := HBR1.out.lt
    exact ⟨(Bk.new _ _ _).row _, (HBR1.out.alloc _).rowFar (by omega) _, (HRW.out.ab ((Below.refl _ _).alloc (Nat.le_refl _) _)).rowFar (by omega) _, Below.row (HBW.out.alloc (by omega) _) (by omega) _, by omega, by omega, by omega, by omega⟩
  have HST := Lib.hid hst
  clear hst
  go_wp2_with (first
    | (refine wpList_loadB (o := ⟨some 19, _, _, _, _, _⟩) rfl 35 (.tmp 3) rfl _ rfl HBX1.out Try.underlying35 (by rw [LX.out]; exact sz16) ?_)
    | (refine wpList_storeB (o := ⟨none, .store _ (.tmp 7) (.tmp 19), _, _, _, _⟩) rfl 35 (.tmp 7) (.tmp 19) rfl _ rfl x rfl (Bk.new w1 35 z16) (by rw [LX.out]; exact sz16) (by rw [LX.out]; rfl) ?_))
  generalize w1.heap.size = g7 at *
  go_loopw [8] (fun v wr => ∃ j : Nat, j ≤ R ∧ v = .int .i64 j ∧ RSt w.heap.size g7 gW w wr (decTo W R x (R - j)) W) (fun v _ => (intOf v).toNat)
  case atStart => exact ⟨R, Nat.le_refl _, rfl, by rw [Nat.sub_self]; exact HST.out⟩
  case round =>
    obtain ⟨j, hj1, rfl, ho⟩ := hrel
    clear HST
    by_cases hlt : 1 ≤ j
    · have hji : (1 : Int) ≤ (j : Int) := by omega
      have hsl : (decTo W R x (R - j)).length = 16 := decTo_len _ _ _ LX.out _
      have hsb : Byt (decTo W R x (R - j)) := decTo_byt hwb hx _
      have hnx : decTo W R x (R - j + 1) = rndD W R j (decTo W R x (R - j)) := by
        rw [decTo, show R - (R - j) = j from by omega]
      rw [rndD] at hnx
      generalize decTo W R x (R - j) = s0 at *
      have HO := Lib.hid ho
      have HSL := Lib.hid hsl
      have HNX := Lib.hid hnx
      clear ho hsl hnx
      go_wp2_with (refine wpList_loadB (o := ⟨some 25, _, _, _, _, _⟩) rfl 35 (.tmp 7) rfl _ rfl HO.out.cur Try.underlying35 (by rw [HSL.out]; exact sz16) ?_)
      refine (rAdd_any s0 W gW (16 * (R + 1)) cW j hsb HSL.out hwb HWL.out _ HO.out.wd (by omega) (by omega) hcW hcW2).mono ?_
      rintro e w5 ⟨rfl, hb5⟩
      have HS5 := Lib.hid (HO.out.call hb5)
      clear hb5 HO

      have h1l : (addK s0 W (16 * j)).length = 16 := addK_len _ _ _
      have h1b : Byt (addK s0 W (16 * j)) := addK_byt hsb hwb _
      generalize addK s0 W (16 * j) = s1 at *
      have HL1 := Lib.hid h1l
      clear h1l
      by_cases hjR : j < R
      · have hjd : (j : Int) < (R : Int) := by omega
        rw [decide_eq_true hjR, unmixIf, if_pos rfl] at HNX
        have H2 := Lib.hid (HS5.out.row s1)
        go_wp2_with (refine wpList_storeB (o := ⟨none, .store _ (.tmp 7) (.tmp 28), _, _, _, _⟩) rfl 35 (.tmp 7) (.tmp 28) rfl _ rfl s1 rfl HS5.out.cur (by rw [HL1.out]; exact sz16) (by rw [HL1.out, HSL.out]) ?_)
        clear HS5
        go_loopw [9] (fun v wx => ∃ q : Nat, q ≤ 4 ∧ v = .int .i64 q ∧ RSt w.heap.size g7 gW w wx (upd (colF unmix s1) s1 (4 * q)) W) (fun v _ => 4 - (intOf v).toNat)
        case atStart => exact ⟨0, by omega, rfl, by rw [Nat.mul_zero, upd_zero]; exact H2.out⟩
        case round =>
          obtain ⟨q, hq, rfl, hin⟩ := hrel
          clear H2
          by_cases hlq : q < 4
          · have hqi : (q : Int) < 4 := by omega
            have hul : (upd (colF unmix s1) s1 (4 * q)).length = 16 := by rw [upd_len, HL1.out]
            have hub : Byt (upd (colF unmix s1) s1 (4 * q)) := by
              intro z hz
              simp only [upd, List.mem_map, List.mem_range] at hz
              obtain ⟨i, _, rfl⟩ := hz
              split
              · exact (unmix_byt _).get _
              · exact h1b.get _
            have hru := row_upd (colF unmix s1) s1 q HL1.out hlq
            have hcl : ∀ p, p < 4 → colF unmix s1 (4 * q + p) = at' (unmix (rowOf s1 q)) p := fun p hp => by
              unfold colF at'
              rw [show (4 * q + p) / 4 = q from by omega, show (4 * q + p) % 4 = p from by omega]
            have hrb := rowOf_byt h1b q
            have hrl : (rowOf s1 q).length = 4 := by simp [rowOf, HL1.out]; omega
            have HIN := Lib.hid hin
            have HUL := Lib.hid hul
            have HRU := Lib.hid hru
            have HRL := Lib.hid hrl
            have HCL := Lib.hid hcl
            clear hin hul hru hrl hcl
            go_wp2_with (refine wpList_loadB (o := ⟨some 36, _, _, _, _, _⟩) rfl 35 (.tmp 7) rfl _ rfl HIN.out.cur Try.underlying35 (by rw [HUL.out]; exact sz16) ?_)
            refine (column_any _ q hub HUL.out hlq _).mono ?_
            rintro e w3 ⟨rfl, hb3⟩
            rw [HRU.out]
            have HI2 := Lib.hid (HIN.out.call hb3)
            clear hb3 HIN
            go_wp2_with fail
            refine (rUnmix_any (rowOf s1 q) hrb HRL.out _).mono ?_
            rintro e w4 ⟨rfl, hb4⟩
            have HI3 := Lib.hid (HI2.out.call hb4)
            clear hb4 HI2
            have hml : (unmix (rowOf s1 q)).length = 4 := unmix_len _
            have hmb : Byt (unmix (rowOf s1 q)) := unmix_byt _
            generalize unmix (rowOf s1 q) = m at hml hmb HCL ⊢
            have HML := Lib.hid hml
            have HI4 := Lib.hid (HI3.out.laid (.cells (bts [0, 0, 0, 0]) 34) (bts m))
            have hgc : Bk ((w4.alloc (.cells (bts [0, 0, 0, 0]) 34)).setRow w4.heap.size (bts m)) w4.heap.size 34 m := (Bk.new w4 _ _).row m
            have HGC := Lib.hid hgc
            clear hml hgc
            go_wp2_with (refine wpList_storeB (o := ⟨none, .store _ (.tmp 10) (.tmp 39), _, _, _, _⟩) rfl 34 (.tmp 10) (.tmp 39) rfl _ rfl m rfl (Bk.new w4 34 [0, 0, 0, 0]) (by rw [HML.out]; exact sz4) (by rw [HML.out]; rfl) ?_)
            have hg4 : w4.heap.size ≠ g7 := by have := HI3.out.cur.lt; omega
            generalize w4.heap.size = g4 at *
            go_loopw [11] (fun v wx => ∃ p : Nat, p ≤ 4 ∧ v = .int .i64 p ∧ RSt w.heap.size g7 gW w wx (upd (colF unmix s1) s1 (4 * q + p)) W ∧ Bk wx g4 34 m) (fun v _ => 4 - (intOf v).toNat)
            case atStart => exact ⟨0, by omega, rfl, HI4.out, HGC.out⟩
            case round =>
              obtain ⟨p, hp, rfl, hin, hgc⟩ := hrel
              clear HI4 HGC
              by_cases hlp : p < 4
              · have hpi : (p : Int) < 4 := by omega
                have c1 := hgc.cell (k := p) (by rw [HML.out]; exact hlp)
                have c2 := hin.cur.cell (k := 4 * q + p) (by rw [upd_len, HL1.out]; omega)
                have f2 := hin.cur.free (4 * q + p)
                have hF := HCL.out p hlp
                change _ = m[p]?.getD 0 at hF
                generalize m[p]?.getD 0 = x at c1 hF
                have HST := Lib.hid (hin.set (by rw [HL1.out]; omega) hF.symm)
                have HG2 := Lib.hid (hgc.far (c := g7) (k := 4 * q + p) hg4 (.int .u8 (x : Int)))
                clear hF hin hgc
                go_wp2_with fail
                go_roundw
                case rel => exact ⟨p + 1, by omega, by go_num, HST.out, HG2.out⟩
                case measure => simp [intOf]; omega
              · obtain rfl : p = 4 := by omega
                have HST := Lib.hid hin
                clear hin hgc
                go_wp2_with fail
                go_roundw
                case rel => exact ⟨q + 1, by omega, by go_num, by rw [show 4 * (q + 1) = 4 * q + 4 from by omega]; exact HST.out⟩
                case measure => simp [intOf]; omega
          · obtain rfl : q = 4 := by omega
            have e1 : upd (colF unmix s1) s1 (4 * 4) = colK unmix s1 := by
              have := upd_all (colF unmix s1) s1
              rw [HL1.out] at this
              exact this
            rw [e1] at hin
            clear e1
            have HOc := Lib.hid hin
            clear hin
            have h3l : (colK unmix s1).length = 16 := colK_len _ _
            have h3b : Byt (colK unmix s1) := colK_byt unmix_byt
            generalize colK unmix s1 = s3 at *
            have HL3 := Lib.hid h3l
            clear h3l

            go_wp2_with (refine wpList_loadB (o := ⟨some 52, _, _, _, _, _⟩) rfl 35 (.tmp 7) rfl _ rfl HOc.out.cur Try.underlying35 (by rw [HL3.out]; exact sz16) ?_)
            refine (moved3_any s3 h3b HL3.out _).mono ?_
            rintro e w5 ⟨rfl, hb5⟩
            have HS5 := Lib.hid (HOc.out.call hb5)
            clear hb5 HOc
            have h4l : (shiftK 3 s3).length = 16 := shiftK_len _ _
            have h4b : Byt (shiftK 3 s3) := shiftK_byt h3b
            generalize shiftK 3 s3 = s4 at *
            have HL4 := Lib.hid h4l
            clear h4l

            have H4 := Lib.hid (HS5.out.row s4)
            go_wp2_with (refine wpList_storeB (o := ⟨none, .store _ (.tmp 7) (.tmp 54), _, _, _, _⟩) rfl 35 (.tmp 7) (.tmp 54) rfl _ rfl s4 rfl HS5.out.cur (by rw [HL4.out]; exact sz16) (by rw [HL4.out, HL3.out]) ?_)
            clear HS5

            go_loopw [12] (fun v wx => ∃ k : Nat, k ≤ 16 ∧ v = .int .i64 k ∧ RSt w.heap.size g7 gW w wx (upd (eachF sinv s4) s4 k) W) (fun v _ => 16 - (intOf v).toNat)
            case atStart => exact ⟨0, by omega, rfl, by rw [upd_zero]; exact H4.out⟩
            case round =>
              obtain ⟨k, hk, rfl, hin⟩ := hrel
              clear H4
              by_cases hlk : k < 16
              · have hki : (k : Int) < 16 := by omega
                have c1 := hin.cur.cell (k := k) (by rw [upd_len, HL4.out]; exact hlk)
                rw [upd_cell (by rw [HL4.out]; exact hlk)] at c1
                have f1 := hin.cur.free k
                have hx := h4b.get k
                have hF : eachF sinv s4 k = sinv (s4[k]?.getD 0) := rfl
                generalize s4[k]?.getD 0 = x at c1 hx hF
                obtain ⟨y, hy⟩ : ∃ y, sinv x = y := ⟨_, rfl⟩
                rw [hy] at hF
                have HST := Lib.hid (hin.set (by rw [HL4.out]; exact hlk) hF.symm)
                have HY := Lib.hid hy
                clear hF hy hin
                go_wp2_with (go_at_call 61; refine (rBack_any x hx _).mono ?_; rintro e w' ⟨rfl, rfl⟩; rw [HY.out])
                go_roundw
                case rel => exact ⟨k + 1, by omega, by go_num, HST.out⟩
                case measure => simp [intOf]; omega
              · obtain rfl : k = 16 := by omega
                have e1 : upd (eachF sinv s4) s4 16 = eachK sinv s4 := by
                  have := upd_all (eachF sinv s4) s4
                  rw [HL4.out] at this
                  exact this
                rw [e1] at hin
                clear e1
                have HOe := Lib.hid hin
                clear hin
                go_wp2_with fail
                go_roundw
                case rel => exact ⟨j - 1, by omega, by go_num, by rw [show R - (j - 1) = R - j + 1 from by omega, HNX.out]; exact HOe.out⟩
                case measure => simp [intOf]; omega
      · have hjd : ¬ (j : Int) < (R : Int) := by omega
        rw [decide_eq_false hjR, unmixIf, if_neg (by simp)] at HNX
        have H2 := Lib.hid (HS5.out.row s1)
        go_wp2_with (first | (refine wpList_loadB (o := ⟨some 52, _, _, _, _, _⟩) rfl 35 (.tmp 7) rfl _ rfl H2.out.cur Try.underlying35 (by rw [HL1.out]; exact sz16) ?_) | (refine wpList_storeB (o := ⟨none, .store _ (.tmp 7) (.tmp 28), _, _, _, _⟩) rfl 35 (.tmp 7) (.tmp 28) rfl _ rfl s1 rfl HS5.out.cur (by rw [HL1.out]; exact sz16) (by rw [HL1.out, HSL.out]) ?_))
        clear HS5
        refine (moved3_any s1 h1b HL1.out _).mono ?_
        rintro e w5 ⟨rfl, hb5⟩
        have HS5 := Lib.hid (H2.out.call hb5)
        clear hb5 H2
        have h4l : (shiftK 3 s1).length = 16 := shiftK_len _ _
        have h4b : Byt (shiftK 3 s1) := shiftK_byt h1b
        generalize shiftK 3 s1 = s4 at *
        have HL4 := Lib.hid h4l
        clear h4l

        have H4 := Lib.hid (HS5.out.row s4)
        go_wp2_with (refine wpList_storeB (o := ⟨none, .store _ (.tmp 7) (.tmp 54), _, _, _, _⟩) rfl 35 (.tmp 7) (.tmp 54) rfl _ rfl s4 rfl HS5.out.cur (by rw [HL4.out]; exact sz16) (by rw [HL4.out, HL1.out]) ?_)
        clear HS5

        go_loopw [12] (fun v wx => ∃ k : Nat, k ≤ 16 ∧ v = .int .i64 k ∧ RSt w.heap.size g7 gW w wx (upd (eachF sinv s4) s4 k) W) (fun v _ => 16 - (intOf v).toNat)
        case atStart => exact ⟨0, by omega, rfl, by rw [upd_zero]; exact H4.out⟩
        case round =>
          obtain ⟨k, hk, rfl, hin⟩ := hrel
          clear H4
          by_cases hlk : k < 16
          · have hki : (k : Int) < 16 := by omega
            have c1 := hin.cur.cell (k := k) (by rw [upd_len, HL4.out]; exact hlk)
            rw [upd_cell (by rw [HL4.out]; exact hlk)] at c1
            have f1 := hin.cur.free k
            have hx := h4b.get k
            have hF : eachF sinv s4 k = sinv (s4[k]?.getD 0) := rfl
            generalize s4[k]?.getD 0 = x at c1 hx hF
            obtain ⟨y, hy⟩ : ∃ y, sinv x = y := ⟨_, rfl⟩
            rw [hy] at hF
            have HST := Lib.hid (hin.set (by rw [HL4.out]; exact hlk) hF.symm)
            have HY := Lib.hid hy
            clear hF hy hin
            go_wp2_with (go_at_call 61; refine (rBack_any x hx _).mono ?_; rintro e w' ⟨rfl, rfl⟩; rw [HY.out])
            go_roundw
            case rel => exact ⟨k + 1, by omega, by go_num, HST.out⟩
            case measure => simp [intOf]; omega
          · obtain rfl : k = 16 := by omega
            have e1 : upd (eachF sinv s4) s4 16 = eachK sinv s4 := by
              have := upd_all (eachF sinv s4) s4
              rw [HL4.out] at this
              exact this
            rw [e1] at hin
            clear e1
            have HOe := Lib.hid hin
            clear hin
            go_wp2_with fail
            go_roundw
            case rel => exact ⟨j - 1, by omega, by go_num, by rw [show R - (j - 1) = R - j + 1 from by omega, HNX.out]; exact HOe.out⟩
            case measure => simp [intOf]; omega
    · have hj3 : R - j = R := by omega
      have hjd : ¬ (1 : Int) ≤ (j : Int) := by omega
      rw [hj3] at ho
      have hsl : (decTo W R x R).length = 16 := decTo_len _ _ _ LX.out _
      have hsb : Byt (decTo W R x R) := decTo_byt hwb hx _
      have hye : decK W R x = addK (decTo W R x R) W 0 := rfl
      generalize decTo W R x R = s0 at *
      have HO := Lib.hid ho
      have HSL := Lib.hid hsl
      have HYE := Lib.hid hye
      clear ho hsl hye hj3
      go_wp2_with (refine wpList_loadB (o := ⟨some 65, _, _, _, _, _⟩) rfl 35 (.tmp 7) rfl _ rfl HO.out.cur Try.underlying35 (by rw [HSL.out]; exact sz16) ?_)
      refine (rAdd_any s0 W gW (16 * (R + 1)) cW 0 hsb HSL.out hwb HWL.out _ HO.out.wd (by omega) (by omega) hcW hcW2).mono ?_
      rintro e w5 ⟨rfl, hb5⟩
      rw [Nat.mul_zero]
      have H5 := Lib.hid (HO.out.call hb5)
      have hl : (addK s0 W 0).length = 16 := addK_len _ _ _
      generalize addK s0 W 0 = z at *
      have HZ := Lib.hid hl
      clear hl hb5 HO
      go_wp2_with (refine wpList_storeB (o := ⟨none, .store _ (.tmp 4) (.tmp 67), _, _, _, _⟩) rfl 35 (.tmp 4) (.tmp 67) rfl _ rfl z rfl H5.out.res (by rw [HZ.out]; exact sz16) (by rw [HZ.out]; rfl) ?_)
      refine bodyPost_ret (results_bts Try.results28 _ _ _ rfl (H5.out.res.row z) Try.underlying35 (by rw [HZ.out]; exact sz16)) rfl ?_
      exact ⟨by rw [HYE.out], Below.row H5.out.below (by omega) _⟩

end Go.Proofs.Ytfchlemjfdlfeaa
