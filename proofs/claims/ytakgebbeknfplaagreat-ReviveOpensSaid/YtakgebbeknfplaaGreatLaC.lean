/-
  WALKS: Decrypt.
  WALKS: the reference's Encrypt and Decrypt.
  WALKS: the reference's Decrypt.
  FOR THE LAWS: arrays of bytes that came in; arrays held against each other; what is kept by calls.
-/
import Derived.Test.YtakgebbeknfplaaGreatAeN
import Derived.Deep.DeepCutAuto
import Derived.Test.YtakgebbeknfplaaGreatAeO
import Derived.ChangeKeysEq
import Derived.Laws.StructEq
import Derived.WideShapes
namespace Go.Proofs.YtakgebbeknfplaaGreat
open Go.RowKit
set_option linter.unusedVariables false

end Go.Proofs.YtakgebbeknfplaaGreat

namespace Go.Proofs.YtakgebbeknfplaaGreat
open Go.RowKit
set_option linter.unusedVariables false

theorem rwords_any (K R n : Nat) (l : List Nat) (A : Option Addr) (c : Nat) (w : World) (hK : K = 4 ∨ K = 8) (hR : R = K + 6) (hn : n = 4 * K) (hin : IsB w A n c l) :
    Calls Tryz.prog 323 #[.slice A n c] w fun e w' => ∃ g cap, e = .returned (.slice (some ⟨g, 0, none⟩) (16 * (R + 1)) cap) ∧ w.heap.size ≤ g ∧ 16 * (R + 1) ≤ cap ∧ cap ≤ 9223372036854775807 ∧ OwB w' w.heap.size (.slice (some ⟨g, 0, none⟩) (16 * (R + 1)) cap) (wordsAll K l) ∧ Below w.heap.size w w' := by
  subst hR hn
  rcases hK with rfl | rfl
  · exact rwords4_any l A c w hin
  · exact rwords8_any l A c w hin
theorem wordsAll_len {K R : Nat} (l : List Nat) (hK : K = 4 ∨ K = 8) (hR : R = K + 6) (hl : l.length = 4 * K) : (wordsAll K l).length = 16 * (R + 1) := by
  subst hR
  rw [wordsAll, wordsOf_len K l hl]
  rcases hK with rfl | rfl <;> rfl
/-- the reference's state: the block, the result's place, the words -/
structure RSt (B g gW : Nat) (w0 w : World) (s W : List Nat) : Prop where
  cur : Bk w g 365 s
  res : Bk w (B + 1) 365 z16
  wd : Rw w gW W
  below : Below B w0 w
  far : B + 1 < g
  ne : gW ≠ g
  ne2 : gW ≠ B + 1
  ge : B ≤ gW
theorem Rw.far {w : World} {g : Nat} {W : List Nat} (h : Rw w g W) {c k : Nat} (hne : g ≠ c) (u : Value) : Rw (w.setCell ⟨c, k, none⟩ u) g W :=
  ⟨by simpa using h.lt, fun i hi => by rw [World.cell?_setCell_far _ _ _ _ (by show c ≠ g; omega)]; exact h.cell i hi⟩
theorem Rw.rowFar {w : World} {g : Nat} {W : List Nat} (h : Rw w g W) {c : Nat} (hne : g ≠ c) (cs : Array Value) : Rw (w.setRow c cs) g W :=
  ⟨by simpa using h.lt, fun i hi => (World.cell?_of_block (a := ⟨g, i, none⟩) (setRow_other w c g cs hne)).trans (h.cell i hi)⟩
section
variable {B g gW : Nat} {w0 w w1 : World} {s W : List Nat}
theorem RSt.drew (h : RSt B g gW w0 w s W) : RSt B g gW w0 w.drew s W := ⟨h.cur.drew, h.res.drew, ⟨h.wd.lt, h.wd.cell⟩, h.below.drew, h.far, h.ne, h.ne2, h.ge⟩
theorem RSt.call (h : RSt B g gW w0 w s W) (hb : Below w.heap.size w w1) : RSt B g gW w0 w1 s W :=
  ⟨h.cur.below hb h.cur.lt, h.res.below hb h.res.lt, h.wd.ab hb, h.below.trans (hb.mono (by have := h.res.lt; omega)), h.far, h.ne, h.ne2, h.ge⟩
theorem RSt.row (h : RSt B g gW w0 w s W) (s' : List Nat) : RSt B g gW w0 (w.setRow g (bts s')) s' W :=
  ⟨h.cur.row s', h.res.rowFar (by have := h.far; omega) _, h.wd.rowFar h.ne _, Below.row h.below (by have := h.far; omega) _, h.far, h.ne, h.ne2, h.ge⟩
theorem RSt.set {F : Nat → Nat} {t : List Nat} {k x : Nat} (h : RSt B g gW w0 w (upd F t k) W) (hk : k < t.length) (hx : x = F k) : RSt B g gW w0 (w.setCell ⟨g, k, none⟩ (.int .u8 (x : Int))) (upd F t (k + 1)) W := by
  subst hx
  refine ⟨?_, h.res.far (by have := h.far; omega) _, h.wd.far h.ne _, h.below.setCell (by show B ≤ g; have := h.far; omega) _, h.far, h.ne, h.ne2, h.ge⟩
  have := h.cur.set k (F k)
  rw [upd_step F t k hk] at this
  exact this
/-- a new block behind them -/
theorem RSt.laid (h : RSt B g gW w0 w s W) (o : Obj) (cs : Array Value) : RSt B g gW w0 ((w.alloc o).setRow w.heap.size cs) s W := by
  have := h.call ((Below.refl w.heap.size w).alloc (Nat.le_refl _) o)
  exact ⟨this.cur.rowFar (by have := h.cur.lt; omega) _, this.res.rowFar (by have := h.res.lt; omega) _, this.wd.rowFar (by have := h.wd.lt; omega) _, Below.row this.below (by have := h.res.lt; omega) _, h.far, h.ne, h.ne2, h.ge⟩
end
theorem row_upd (F : Nat → Nat) (s : List Nat) (q : Nat) (hs : s.length = 16) (hq : q < 4) : rowOf (upd F s (4 * q)) q = rowOf s q := by
  apply List.ext_getElem (by simp [rowOf, upd_len])
  intro i h1 h2
  have hi : i < 4 := by simp [rowOf] at h2; omega
  simp only [rowOf, List.getElem_take, List.getElem_drop]
  have := upd_get F s (4 * q) (4 * q + i) (by omega)
  rw [if_neg (by omega), List.getElem?_eq_getElem (by rw [upd_len]; omega), List.getElem?_eq_getElem (by omega)] at this
  exact this

set_option maxRecDepth 100000 in
set_option maxHeartbeats 8000000 in
theorem rEnc_any (K R n : Nat) (l x : List Nat) (A : Option Addr) (c : Nat) (w : World) (hK : K = 4 ∨ K = 8) (hR : R = K + 6) (hn : n = 4 * K) (hin : IsB w A n c l) (hx : Byt x) (lx : x.length = 16) :
    Calls Tryz.prog 279 #[.slice A n c, .agg (bts x)] w fun e w' => e = .returned (.agg (bts (encK (wordsAll K l) R x))) ∧ Below w.heap.size w w' := by
  have hNR : IntKind.i64.wrap ((n : Int) / 4) = (K : Int) := by rw [IntWalk.i64_in _ (by omega)]; omega
  have hKR : (K : Int) + 6 = (R : Int) := by omega
  have hR0 : 10 ≤ R := by omega
  have hR1 : R ≤ 14 := by omega
  have hwl := wordsAll_len l hK hR (by rw [hin.len, hn])
  have hw : ∀ W, IsB W A n c l → _ := fun W h => rwords_any K R n l A c W hK hR hn h
  have hwb := (wordsAll_exp (k := K) (key := l) hK (by rw [hin.len, hn]) hin.2).byt
  generalize wordsAll K l = W at hwl hw hwb ⊢
  have HIN := Lib.hid hin
  have HWL := Lib.hid hwl
  have HW := Lib.hid hw
  have LX := Lib.hid lx
  have hb0 : Below w.heap.size w ((w.alloc (.cells (bts x) 365)).alloc (.cells (bts z16) 365)) := ((Below.refl _ _).alloc (Nat.le_refl _) _).alloc (by simp) _
  have hbx : Bk ((w.alloc (.cells (bts x) 365)).alloc (.cells (bts z16) 365)) w.heap.size 365 x := (Bk.newAt _ x rfl).alloc _
  have hbr : Bk ((w.alloc (.cells (bts x) 365)).alloc (.cells (bts z16) 365)) (w.heap.size + 1) 365 z16 := Bk.newAt _ z16 (by simp)
  have HB0 := Lib.hid hb0
  have HBX := Lib.hid hbx
  have HBR := Lib.hid hbr
  clear hin hwl hw lx hK hR hn hb0 hbx hbr
  go_enter Tryz.func279, Tryz.ntmps279
  go_wp2_with fail
  refine (HW.out _ (HIN.out.below HB0.out)).mono ?_
  rintro e w1 ⟨gW, cW, rfl, hgW, hcW, hcW2, how, hb1⟩
  have hrw : Rw w1 gW W := ⟨(how.lt gW rfl).2, how.rw⟩
  have hgW2 : w.heap.size + 2 ≤ gW := by simpa using hgW
  have hbw1 : Below w.heap.size w w1 := HB0.out.trans (hb1.mono (by simp; omega))
  have HBX1 := Lib.hid (HBX.out.below hb1 (Nat.lt_of_lt_of_le HBX.out.lt (Nat.le_refl _)))
  have HBR1 := Lib.hid (HBR.out.below hb1 (Nat.lt_of_lt_of_le HBR.out.lt (Nat.le_refl _)))
  have HRW := Lib.hid hrw
  have HBW := Lib.hid hbw1
  clear how hb1 hrw hgW hbw1 HBX HBR HB0

  go_wp2_with (refine wpList_loadB (o := ⟨some 19, _, _, _, _, _⟩) rfl 365 (.tmp 3) rfl _ rfl HBX1.out Tryz.underlying365 (by rw [LX.out]; exact sz16) ?_)
  refine (rAdd_any x W gW (16 * (R + 1)) cW 0 hx LX.out hwb HWL.out _ HRW.out (by omega) (by omega) hcW hcW2).mono ?_
  rintro e w2 ⟨rfl, hb2⟩
  rw [Nat.mul_zero]
  have h1l : (addK x W 0).length = 16 := addK_len _ _ _
  have hst : RSt w.heap.size w2.heap.size gW w ((w2.alloc (.cells (bts z16) 365)).setRow w2.heap.size (bts (addK x W 0))) (addK x W 0) W := by
    have hs1 := HRW.out.lt
    have hs2 := HBR1.out.lt
    have hs3 := hb2.size
    exact ⟨(Bk.new _ _ _).row _, ((HBR1.out.below hb2 HBR1.out.lt).alloc _).rowFar (by omega) _, ((HRW.out.ab hb2).ab ((Below.refl _ _).alloc (Nat.le_refl _) _)).rowFar (by omega) _, Below.row ((HBW.out.trans (hb2.mono (by omega))).alloc (by omega) _) (by omega) _, by omega, by omega, by omega, by omega⟩
  generalize hye : addK x W 0 = y at h1l hst ⊢
  have HYE := Lib.hid hye
  have HY := Lib.hid h1l
  have HST := Lib.hid hst
  clear h1l hst hb2 hye
  go_wp2_with (refine wpList_storeB (o := ⟨none, .store _ (.tmp 7) (.tmp 21), _, _, _, _⟩) rfl 365 (.tmp 7) (.tmp 21) rfl _ rfl y rfl (Bk.new w2 365 z16) (by rw [HY.out]; exact sz16) (by rw [HY.out]; rfl) ?_)
  generalize w2.heap.size = g7 at *
  go_loopw [8] (fun v wr => ∃ j : Nat, 1 ≤ j ∧ j ≤ R + 1 ∧ v = .int .i64 j ∧ RSt w.heap.size g7 gW w wr (encTo W R x (j - 1)) W) (fun v _ => R + 1 - (intOf v).toNat)
  case atStart => exact ⟨1, by omega, by omega, rfl, by show RSt _ _ _ _ _ (addK x W 0) _; rw [HYE.out]; exact HST.out⟩
  case round =>
    obtain ⟨j, hj1, hj2, rfl, ho⟩ := hrel
    clear HST
    by_cases hlt : j ≤ R
    · have hji : (j : Int) ≤ (R : Int) := by omega
      have hsl : (encTo W R x (j - 1)).length = 16 := encTo_len _ _ _ _
      have hsb : Byt (encTo W R x (j - 1)) := encTo_byt hwb hx _
      have hnx : encTo W R x j = rndE W R j (encTo W R x (j - 1)) := by
        conv => lhs; rw [show j = (j - 1) + 1 from by omega]
        rw [encTo, show j - 1 + 1 = j from by omega]
      rw [rndE] at hnx
      generalize encTo W R x (j - 1) = s0 at *
      have HO := Lib.hid ho
      have HSL := Lib.hid hsl
      have HNX := Lib.hid hnx
      clear ho hsl hnx
      go_wp2_with fail
      go_loopw [9] (fun v wx => ∃ k : Nat, k ≤ 16 ∧ v = .int .i64 k ∧ RSt w.heap.size g7 gW w wx (upd (eachF sbox s0) s0 k) W) (fun v _ => 16 - (intOf v).toNat)
      case atStart => exact ⟨0, by omega, rfl, by rw [upd_zero]; exact HO.out⟩
      case round =>
        obtain ⟨k, hk, rfl, hin⟩ := hrel
        clear HO
        by_cases hlk : k < 16
        · have hki : (k : Int) < 16 := by omega
          have c1 := hin.cur.cell (k := k) (by rw [upd_len, HSL.out]; exact hlk)
          rw [upd_cell (by rw [HSL.out]; exact hlk)] at c1
          have f1 := hin.cur.free k
          have hx := hsb.get k
          have hF : eachF sbox s0 k = sbox (s0[k]?.getD 0) := rfl
          generalize s0[k]?.getD 0 = x at c1 hx hF
          obtain ⟨y, hy⟩ : ∃ y, sbox x = y := ⟨_, rfl⟩
          rw [hy] at hF
          have HST := Lib.hid (hin.set (by rw [HSL.out]; exact hlk) hF.symm)
          have HY := Lib.hid hy
          clear hF hy hin
          go_wp2_with (go_at_call 325; refine (rSub_any x hx _).mono ?_; rintro e w' ⟨rfl, rfl⟩; rw [HY.out])
          go_roundw
          case rel => exact ⟨k + 1, by omega, by go_num, HST.out⟩
          case measure => simp [intOf]; omega
        · obtain rfl : k = 16 := by omega
          have e1 : upd (eachF sbox s0) s0 16 = eachK sbox s0 := by
            have := upd_all (eachF sbox s0) s0
            rw [HSL.out] at this
            exact this
          rw [e1] at hin
          clear e1
          have HOe := Lib.hid hin
          clear hin
          have h1l : (eachK sbox s0).length = 16 := eachK_len _ _
          have h1b : Byt (eachK sbox s0) := eachK_byt hsb sbox_lt
          generalize eachK sbox s0 = s1 at *
          have HL1 := Lib.hid h1l
          clear h1l

          go_wp2_with (refine wpList_loadB (o := ⟨some 37, _, _, _, _, _⟩) rfl 365 (.tmp 7) rfl _ rfl HOe.out.cur Tryz.underlying365 (by rw [HL1.out]; exact sz16) ?_)
          refine (moved1_any s1 h1b HL1.out _).mono ?_
          rintro e w5 ⟨rfl, hb5⟩
          have HS5 := Lib.hid (HOe.out.call hb5)
          clear hb5 HOe

          have h2l : (shiftK 1 s1).length = 16 := shiftK_len _ _
          have h2b : Byt (shiftK 1 s1) := shiftK_byt h1b
          generalize shiftK 1 s1 = s2 at *
          have HL2 := Lib.hid h2l
          clear h2l
          by_cases hjR : j < R
          · have hjd : (j : Int) < (R : Int) := by omega
            rw [decide_eq_true hjR, mixIf, if_pos rfl] at HNX
            have H2 := Lib.hid (HS5.out.row s2)
            go_wp2_with (refine wpList_storeB (o := ⟨none, .store _ (.tmp 7) (.tmp 39), _, _, _, _⟩) rfl 365 (.tmp 7) (.tmp 39) rfl _ rfl s2 rfl HS5.out.cur (by rw [HL2.out]; exact sz16) (by rw [HL2.out, HL1.out]) ?_)
            clear HS5
            go_loopw [10] (fun v wx => ∃ q : Nat, q ≤ 4 ∧ v = .int .i64 q ∧ RSt w.heap.size g7 gW w wx (upd (colF mix s2) s2 (4 * q)) W) (fun v _ => 4 - (intOf v).toNat)
            case atStart => exact ⟨0, by omega, rfl, by rw [Nat.mul_zero, upd_zero]; exact H2.out⟩
            case round =>
              obtain ⟨q, hq, rfl, hin⟩ := hrel
              clear H2
              by_cases hlq : q < 4
              · have hqi : (q : Int) < 4 := by omega
                have hul : (upd (colF mix s2) s2 (4 * q)).length = 16 := by rw [upd_len, HL2.out]
                have hub : Byt (upd (colF mix s2) s2 (4 * q)) := by
                  intro z hz
                  simp only [upd, List.mem_map, List.mem_range] at hz
                  obtain ⟨i, _, rfl⟩ := hz
                  split
                  · exact (mix_byt _).get _
                  · exact h2b.get _
                have hru := row_upd (colF mix s2) s2 q HL2.out hlq
                have hcl : ∀ p, p < 4 → colF mix s2 (4 * q + p) = at' (mix (rowOf s2 q)) p := fun p hp => by
                  unfold colF at'
                  rw [show (4 * q + p) / 4 = q from by omega, show (4 * q + p) % 4 = p from by omega]
                have hrb := rowOf_byt h2b q
                have hrl : (rowOf s2 q).length = 4 := by simp [rowOf, HL2.out]; omega
                have HIN := Lib.hid hin
                have HUL := Lib.hid hul
                have HRU := Lib.hid hru
                have HRL := Lib.hid hrl
                have HCL := Lib.hid hcl
                clear hin hul hru hrl hcl
                go_wp2_with (refine wpList_loadB (o := ⟨some 47, _, _, _, _, _⟩) rfl 365 (.tmp 7) rfl _ rfl HIN.out.cur Tryz.underlying365 (by rw [HUL.out]; exact sz16) ?_)
                refine (column_any _ q hub HUL.out hlq _).mono ?_
                rintro e w3 ⟨rfl, hb3⟩
                rw [HRU.out]
                have HI2 := Lib.hid (HIN.out.call hb3)
                clear hb3 HIN
                go_wp2_with fail
                refine (rMix_any (rowOf s2 q) hrb HRL.out _).mono ?_
                rintro e w4 ⟨rfl, hb4⟩
                have HI3 := Lib.hid (HI2.out.call hb4)
                clear hb4 HI2
                have hml : (mix (rowOf s2 q)).length = 4 := mix_len _
                have hmb : Byt (mix (rowOf s2 q)) := mix_byt _
                generalize mix (rowOf s2 q) = m at hml hmb HCL ⊢
                have HML := Lib.hid hml
                have HI4 := Lib.hid (HI3.out.laid (.cells (bts [0, 0, 0, 0]) 432) (bts m))
                have hgc : Bk ((w4.alloc (.cells (bts [0, 0, 0, 0]) 432)).setRow w4.heap.size (bts m)) w4.heap.size 432 m := (Bk.new w4 _ _).row m
                have HGC := Lib.hid hgc
                clear hml hgc
                go_wp2_with (refine wpList_storeB (o := ⟨none, .store _ (.tmp 11) (.tmp 50), _, _, _, _⟩) rfl 432 (.tmp 11) (.tmp 50) rfl _ rfl m rfl (Bk.new w4 432 [0, 0, 0, 0]) (by rw [HML.out]; exact sz4) (by rw [HML.out]; rfl) ?_)
                have hg4 : w4.heap.size ≠ g7 := by have := HI3.out.cur.lt; omega
                generalize w4.heap.size = g4 at *
                go_loopw [12] (fun v wx => ∃ p : Nat, p ≤ 4 ∧ v = .int .i64 p ∧ RSt w.heap.size g7 gW w wx (upd (colF mix s2) s2 (4 * q + p)) W ∧ Bk wx g4 432 m) (fun v _ => 4 - (intOf v).toNat)
                case atStart => exact ⟨0, by omega, rfl, HI4.out, HGC.out⟩
                case round =>
                  obtain ⟨p, hp, rfl, hin, hgc⟩ := hrel
                  clear HI4 HGC
                  by_cases hlp : p < 4
                  · have hpi : (p : Int) < 4 := by omega
                    have c1 := hgc.cell (k := p) (by rw [HML.out]; exact hlp)
                    have c2 := hin.cur.cell (k := 4 * q + p) (by rw [upd_len, HL2.out]; omega)
                    have f2 := hin.cur.free (4 * q + p)
                    have hF := HCL.out p hlp
                    change _ = m[p]?.getD 0 at hF
                    generalize m[p]?.getD 0 = x at c1 hF
                    have HST := Lib.hid (hin.set (by rw [HL2.out]; omega) hF.symm)
                    have HG2 := Lib.hid (hgc.far (c := g7) (k := 4 * q + p) hg4 (.int .u8 (x : Int)))
                    clear hF hin hgc
                    go_wp2_with fail
                    go_roundw
                    case rel => exact ⟨p + 1, by omega, by go_num, HST.out, HG2.out⟩
                    case measure => simp [intOf]; omega
                  · obtain rfl : p = 4 := by omega
                    have HST := Lib.hid hin
                    clear hin hgc
                    go_wp2_with fail
                    go_roundw
                    case rel => exact ⟨q + 1, by omega, by go_num, by rw [show 4 * (q + 1) = 4 * q + 4 from by omega]; exact HST.out⟩
                    case measure => simp [intOf]; omega
              · obtain rfl : q = 4 := by omega
                have e1 : upd (colF mix s2) s2 (4 * 4) = colK mix s2 := by
                  have := upd_all (colF mix s2) s2
                  rw [HL2.out] at this
                  exact this
                rw [e1] at hin
                clear e1
                have HOc := Lib.hid hin
                clear hin
                have h3l : (colK mix s2).length = 16 := colK_len _ _
                have h3b : Byt (colK mix s2) := colK_byt mix_byt
                generalize colK mix s2 = s3 at *
                have HL3 := Lib.hid h3l
                clear h3l
                go_wp2_with (refine wpList_loadB (o := ⟨some 63, _, _, _, _, _⟩) rfl 365 (.tmp 7) rfl _ rfl HOc.out.cur Tryz.underlying365 (by rw [HL3.out]; exact sz16) ?_)
                refine (rAdd_any s3 W gW (16 * (R + 1)) cW j h3b HL3.out hwb HWL.out _ HOc.out.wd (by omega) (by omega) hcW hcW2).mono ?_
                rintro e w5 ⟨rfl, hb5⟩
                have HS5 := Lib.hid (HOc.out.call hb5)
                clear hb5 HOc

                have h6l : (addK s3 W (16 * j)).length = 16 := addK_len _ _ _
                generalize addK s3 W (16 * j) = s6 at *
                have HL6 := Lib.hid h6l
                clear h6l

                have H6 := Lib.hid (HS5.out.row s6)
                go_wp2_with (refine wpList_storeB (o := ⟨none, .store _ (.tmp 7) (.tmp 66), _, _, _, _⟩) rfl 365 (.tmp 7) (.tmp 66) rfl _ rfl s6 rfl HS5.out.cur (by rw [HL6.out]; exact sz16) (by rw [HL6.out, HL3.out]) ?_)
                clear HS5

                go_roundw
                case rel => exact ⟨j + 1, by omega, by omega, by go_num, by rw [show j + 1 - 1 = j from by omega, HNX.out]; exact H6.out⟩
                case measure => simp [intOf]; omega
          · have hjd : ¬ (j : Int) < (R : Int) := by omega
            rw [decide_eq_false hjR, mixIf, if_neg (by simp)] at HNX
            have H2 := Lib.hid (HS5.out.row s2)
            go_wp2_with (first | (refine wpList_loadB (o := ⟨some 63, _, _, _, _, _⟩) rfl 365 (.tmp 7) rfl _ rfl H2.out.cur Tryz.underlying365 (by rw [HL2.out]; exact sz16) ?_) | (refine wpList_storeB (o := ⟨none, .store _ (.tmp 7) (.tmp 39), _, _, _, _⟩) rfl 365 (.tmp 7) (.tmp 39) rfl _ rfl s2 rfl HS5.out.cur (by rw [HL2.out]; exact sz16) (by rw [HL2.out, HL1.out]) ?_))
            clear HS5
            refine (rAdd_any s2 W gW (16 * (R + 1)) cW j h2b HL2.out hwb HWL.out _ H2.out.wd (by omega) (by omega) hcW hcW2).mono ?_
            rintro e w5 ⟨rfl, hb5⟩
            have HS5 := Lib.hid (H2.out.call hb5)
            clear hb5 H2

            have h6l : (addK s2 W (16 * j)).length = 16 := addK_len _ _ _
            generalize addK s2 W (16 * j) = s6 at *
            have HL6 := Lib.hid h6l
            clear h6l

            have H6 := Lib.hid (HS5.out.row s6)
            go_wp2_with (refine wpList_storeB (o := ⟨none, .store _ (.tmp 7) (.tmp 66), _, _, _, _⟩) rfl 365 (.tmp 7) (.tmp 66) rfl _ rfl s6 rfl HS5.out.cur (by rw [HL6.out]; exact sz16) (by rw [HL6.out, HL2.out]) ?_)
            clear HS5

            go_roundw
            case rel => exact ⟨j + 1, by omega, by omega, by go_num, by rw [show j + 1 - 1 = j from by omega, HNX.out]; exact H6.out⟩
            case measure => simp [intOf]; omega
    · have hj3 : j - 1 = R := by omega
      have hl : (encK W R x).length = 16 := encK_len _ _ _
      have ho2 : RSt w.heap.size g7 gW w wr (encK W R x) W := by rw [hj3] at ho; exact ho
      have hri : (R : Int) < (j : Int) := by omega
      clear ho hj3
      generalize hze : encK W R x = z at hl ho2
      have HZE := Lib.hid hze
      clear hze
      have HZ := Lib.hid hl
      have HO := Lib.hid ho2
      clear hl ho2
      go_wp2_with (first
        | (refine wpList_loadB (o := ⟨some 67, _, _, _, _, _⟩) rfl 365 (.tmp 7) rfl _ rfl HO.out.cur Tryz.underlying365 (by rw [HZ.out]; exact sz16) ?_)
        | (refine wpList_storeB (o := ⟨none, .store _ (.tmp 4) (.tmp 67), _, _, _, _⟩) rfl 365 (.tmp 4) (.tmp 67) rfl _ rfl z rfl HO.out.res (by rw [HZ.out]; exact sz16) (by rw [HZ.out]; rfl) ?_))
      refine bodyPost_ret (results_bts Tryz.results279 _ _ _ rfl (HO.out.res.row z) Tryz.underlying365 (by rw [HZ.out]; exact sz16)) rfl ?_
      exact ⟨by rw [HZE.out], Below.row HO.out.below (by omega) _⟩

end Go.Proofs.YtakgebbeknfplaaGreat

namespace Go.Proofs.YtakgebbeknfplaaGreat
open Go.RowKit
set_option linter.unusedVariables false

end Go.Proofs.YtakgebbeknfplaaGreat

namespace Go.Proofs.YtakgebbeknfplaaGreat
open Go.RowKit
set_option linter.unusedVariables false

def byteV : Value → Nat
  | .int _ z => z.toNat
  | _ => 0
section
variable {P : Program}
/-- an array of bytes that came in -/
theorem okWide_bytes {w : World} {r : Reach} {base n : Nat} {t e : TypeId} {v : Value} {ts : List TypeId} (ht : P.underlying t = some (.array n e)) (he : P.underlying e = some (.int .u8)) (hc : P.cellsOf t = n) (hts : P.cellTypes P.depth t = some ts) (hte : ∀ u ∈ ts, u = e)
    (h : Value.okWide P w r base t v) : ∃ l, v = .agg (bts l) ∧ Byt l ∧ l.length = n := by
  simp only [Value.okWide, ht] at h
  obtain ⟨cs, rfl, hs, ts', h1, _, h2⟩ := h
  rw [hts] at h1
  injection h1 with h1
  subst h1
  have hcell : ∀ i (hi : i < cs.size), ∃ x : Nat, cs[i] = .int .u8 (x : Int) ∧ x < 256 := by
    intro i hi
    obtain ⟨u, hu, hk⟩ := h2 i cs[i] (Array.getElem?_eq_getElem hi)
    have := hte u (List.mem_of_getElem? hu)
    subst this
    generalize cs[i] = v at hk
    cases v <;> simp only [Cell.okWide, he, Cell.ok] at hk
    rename_i k z
    obtain ⟨rfl, hz⟩ := hk
    have e1 : IntKind.u8.min = 0 := rfl
    have e2 : IntKind.u8.max = 255 := rfl
    simp only [IntKind.has, e1, e2] at hz
    exact ⟨z.toNat, by congr 1; omega, by omega⟩
  refine ⟨(List.range cs.size).map fun i => byteV (cs[i]?.getD undef), ?_, ?_, by simp [hs, hc]⟩
  · congr 1
    apply Array.ext (by simp [bts])
    intro i h1 h2
    obtain ⟨x, hx, _⟩ := hcell i h1
    simp [bts, hx, byteV, Array.getElem?_eq_getElem h1]
  · intro x hx
    obtain ⟨i, hi, rfl⟩ := List.mem_map.1 hx
    have hi : i < cs.size := by simpa using hi
    obtain ⟨x, hx, hb⟩ := hcell i hi
    simp only [Array.getElem?_eq_getElem hi, hx, Option.getD_some, byteV]
    omega

theorem run_part_byte (w : World) {e : TypeId} {i : TypeInfo} (l : List Nat) (k : Nat) (he : P.underlying e = some (.int .u8)) (hi : P.info? e = some i) (hs : i.size = 1) (hk : k < l.length) :
    (part e (bts l) k).run P w = .ok (.int .u8 (at' l k : Nat)) w := by
  have hg := bts_get l k hk
  simp [part, isAgg, sizeOf, typeInfo, run_underlying he, hi, hs, hg, at']
theorem run_eq_bytes (w : World) (d : Nat) {t e : TypeId} {n : Nat} {i : TypeInfo} (a b : List Nat) (hu : P.underlying t = some (.array n e)) (he : P.underlying e = some (.int .u8)) (hi : P.info? e = some i) (hs : i.size = 1) (hc : P.cellsOf e = 1) (ha : a.length = n) (hb : b.length = n) :
    (Op.equalIn (d + 2) t (.agg (bts a)) (.agg (bts b))).run P w = .ok (decide (a = b)) w := by
  rw [run_equalIn_array (d := d + 1) (w := w) (bts a) (bts b) hu hi, hc]
  have key : ∀ is : List Nat, (∀ i ∈ is, i < n) → (Op.eqItems (d + 1) e 1 (bts a) (bts b) is).run P w = .ok (decide (∀ i ∈ is, at' a i = at' b i)) w := by
    intro is
    induction is with
    | nil => intro _; simp [Op.eqItems]
    | cons j is ih =>
      intro hj
      have h1 := run_part_byte (P := P) w a j he hi hs (by rw [ha]; exact hj j (by simp))
      have h2 := run_part_byte (P := P) w b j he hi hs (by rw [hb]; exact hj j (by simp))
      have h3 := run_equalIn_int (P := P) (w := w) d e .u8 .u8 (at' a j : Nat) (at' b j : Nat) he
      simp only [Op.eqItems, Sem.run_bind, Nat.mul_one, h1, h2, h3, Result.andThen_ok]
      by_cases hab : at' a j = at' b j
      · have : (((at' a j : Nat) : Int) == ((at' b j : Nat) : Int)) = true := by rw [beq_iff_eq]; omega
        rw [this]
        simp only [Bool.not_true, Bool.false_eq_true, if_false]
        rw [ih (fun i hi => hj i (by simp [hi]))]
        simp [hab]
      · have : (((at' a j : Nat) : Int) == ((at' b j : Nat) : Int)) = false := by rw [beq_eq_false_iff_ne]; omega
        rw [this]
        simp [hab]
  rw [key _ (fun i hi => by simpa using hi)]
  congr 1
  rw [decide_eq_decide]
  constructor
  · intro h
    apply List.ext_getElem (by rw [ha, hb])
    intro i h1 h2
    have := h i (by simp; omega)
    simpa [at', List.getElem?_eq_getElem h1, List.getElem?_eq_getElem h2] using this
  · intro h
    subst h
    simp
end
theorem wpList_loadBg {ops : Array Oper} {rest : List Oper} {o : Oper} {a : Act} {w : World} {Q : Exit → Act → World → Prop} (hw : Region.wanted o (yielded ops a.tmps) = true) (ty : TypeId) (x : Operand) (ho : o.op = .load ty x)
    (g : Nat) (hx : a.eval x = .pointer (some ⟨g, 0, none⟩)) {t : TypeId} {l : List Nat} (hg : Bk w g t l) {m : Nat} {e : TypeId}
    (hu : Tryz.prog.underlying ty = some (.array m e)) (hi : (Tryz.prog.info? ty).map (·.size) = some l.length)
    (h : wpList Tryz.prog ops Q rest (a.put o.dst (.agg (bts l))) w) : wpList Tryz.prog ops Q (o :: rest) a w := by
  refine wpList_step (fun K hK => ?_)
  rw [if_pos hw]
  exact wp_loadB ty x ho g hx hg hu hi (hK _ _ h)
theorem eq16 (a b : List Nat) (ha : a.length = 16) (hb : b.length = 16) (w : World) : (Op.equalIn 10000 365 (.agg (bts a)) (.agg (bts b))).run Tryz.prog w = .ok (decide (a = b)) w := by
  obtain ⟨i, hi, hs⟩ := infoB
  exact run_eq_bytes w 9998 a b Tryz.underlying365 Tryz.underlying5 hi hs (by kernel_rfl) ha hb
theorem AbW.call {w0 w w' : World} (h : AbW w0 w) (hb : Below w.heap.size w w') : AbW w0 w' := Below.trans h (hb.mono (Below.size h))
theorem Cip.ab {w w' : World} {g : Nat} {v : Value} {i : Nat} (h : Cip w g v i) (hb : Below w.heap.size w w') : Cip w' g v i := h.below hb h.lt
theorem Bk.ab {w w' : World} {b : Nat} {t : TypeId} {l : List Nat} (h : Bk w b t l) (hb : Below w.heap.size w w') : Bk w' b t l := h.below hb h.lt

/-- a cipher of a key, as aes.New leaves it -/
structure CipK (w : World) (b g K : Nat) (l : List Nat) : Prop where
  wd : Bk w b 432 (wordsAll K l)
  cip : Cip w g (.slice (some ⟨b, 0, none⟩) (4 * (K + 7)) (4 * (K + 7))) 256
theorem CipK.ab {w w' : World} {b g K : Nat} {l : List Nat} (h : CipK w b g K l) (hb : Below w.heap.size w w') : CipK w' b g K l := ⟨h.wd.ab hb, h.cip.ab hb⟩
theorem new_any (K n : Nat) (l : List Nat) (A : Option Addr) (c : Nat) (w : World) (hK : K = 4 ∨ K = 8) (hn : n = 4 * K) (hin : IsB w A n c l) :
    Calls Tryz.prog 260 #[.slice A n c] w fun e w' => ∃ b g, e = .returned (.tuple #[.pointer (some ⟨g, 0, none⟩), .int .i64 0]) ∧ b < g ∧ w.heap.size ≤ b ∧ CipK w' b g K l ∧ Below w.heap.size w w' := by
  subst hn
  rcases hK with rfl | rfl
  · exact (new4_any l A c w hin).mono fun e w' ⟨b, g, h1, h2, h3, h4, h5, h6⟩ => ⟨b, g, h1, h2, h3, ⟨h4, h5⟩, h6⟩
  · exact (new8_any l A c w hin).mono fun e w' ⟨b, g, h1, h2, h3, h4, h5, h6⟩ => ⟨b, g, h1, h2, h3, ⟨h4, h5⟩, h6⟩
theorem encC_any (b g K : Nat) (l x : List Nat) (w : World) (hK : K = 4 ∨ K = 8) (hl : l.length = 4 * K) (hb : Byt l) (hx : Byt x) (lx : x.length = 16) (hC : CipK w b g K l) :
    Calls Tryz.prog 262 #[.pointer (some ⟨g, 0, none⟩), .agg (bts x)] w fun e w' => e = .returned (.tuple #[.agg (bts (encK (wordsAll K l) (K + 6) x)), .int .i64 0]) ∧ Below w.heap.size w w' :=
  enc_any g b (4 * (K + 7)) (K + 6) (wordsAll K l) x w hx lx (wordsAll_exp hK hl hb).byt (wordsAll_len l hK rfl hl) rfl (by omega) (by omega) hC.cip hC.wd
theorem may_yes (A : Option Addr) (n c : Nat) (w : World) (h : n = 16 ∨ n = 32) : Calls Tryz.prog 79 #[.slice A n c] w fun e w' => e = .returned (.bool true) ∧ w = w' := by
  rcases h with rfl | rfl
  all_goals
    go_enter Tryz.func79, Tryz.ntmps79
    go_wp2
    go_ret
    exact ⟨rfl, rfl⟩
theorem may_no (A : Option Addr) (n c : Nat) (w : World) (h : n ≠ 16) (h' : n ≠ 32) : Calls Tryz.prog 79 #[.slice A n c] w fun e w' => e = .returned (.bool false) ∧ w = w' := by
  have h1 : ((n : Int) == 16) = false := by rw [beq_eq_false_iff_ne]; omega
  have h2 : ((n : Int) == 32) = false := by rw [beq_eq_false_iff_ne]; omega
  go_enter Tryz.func79, Tryz.ntmps79
  go_wp2
  go_ret
  exact ⟨rfl, rfl⟩

theorem range_byt (n : Nat) (h : n ≤ 256) : Byt (List.range n) := fun x hx => by have := List.mem_range.1 hx; omega
end Go.Proofs.YtakgebbeknfplaaGreat
