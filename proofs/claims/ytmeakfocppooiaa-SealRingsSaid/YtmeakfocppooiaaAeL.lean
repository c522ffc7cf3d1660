/-
  WALKS: Encrypt and Decrypt.
-/
import Derived.Test.YtmeakfocppooiaaAeK
import Derived.Test.YtmeakfocppooiaaCtC
import Derived.Outline
import Derived.Deep.RegionHeld3
import Derived.Deep.DeepCutAuto
namespace Go.Proofs.Ytmeakfocppooiaa
open Go.RowKit
set_option linter.unusedVariables false

/-! the rounds -/
def mixIf (b : Bool) (s : List Nat) : List Nat := if b then colK mix s else s
def unmixIf (b : Bool) (s : List Nat) : List Nat := if b then colK unmix s else s
def rndE (W : List Nat) (R j : Nat) (s : List Nat) : List Nat := addK (mixIf (decide (j < R)) (shiftK 1 (eachK sbox s))) W (16 * j)
def encTo (W : List Nat) (R : Nat) (s : List Nat) : Nat → List Nat
  | 0 => addK s W 0
  | j + 1 => rndE W R (j + 1) (encTo W R s j)
def encK (W : List Nat) (R : Nat) (s : List Nat) : List Nat := encTo W R s R
def rndD (W : List Nat) (R j : Nat) (s : List Nat) : List Nat := eachK sinv (shiftK 3 (unmixIf (decide (j < R)) (addK s W (16 * j))))
def decTo (W : List Nat) (R : Nat) (s : List Nat) : Nat → List Nat
  | 0 => s
  | k + 1 => rndD W R (R - k) (decTo W R s k)
def decK (W : List Nat) (R : Nat) (s : List Nat) : List Nat := addK (decTo W R s R) W 0
theorem mixIf_len (b : Bool) (s : List Nat) (h : s.length = 16) : (mixIf b s).length = 16 := by unfold mixIf; split <;> simp [colK_len, h]
theorem mixIf_byt {b : Bool} {s : List Nat} (h : Byt s) : Byt (mixIf b s) := by unfold mixIf; split; exact colK_byt mix_byt; exact h
theorem unmixIf_len (b : Bool) (s : List Nat) (h : s.length = 16) : (unmixIf b s).length = 16 := by unfold unmixIf; split <;> simp [colK_len, h]
theorem unmixIf_byt {b : Bool} {s : List Nat} (h : Byt s) : Byt (unmixIf b s) := by unfold unmixIf; split; exact colK_byt unmix_byt; exact h
theorem encTo_len (W : List Nat) (R : Nat) (s : List Nat) : ∀ j, (encTo W R s j).length = 16
  | 0 => addK_len _ _ _
  | j + 1 => addK_len _ _ _
theorem encTo_byt {W : List Nat} {R : Nat} {s : List Nat} (hW : Byt W) (hs : Byt s) : ∀ j, Byt (encTo W R s j)
  | 0 => addK_byt hs hW _
  | j + 1 => addK_byt (mixIf_byt (shiftK_byt (eachK_byt (encTo_byt hW hs j) sbox_lt))) hW _
theorem decTo_len (W : List Nat) (R : Nat) (s : List Nat) (h : s.length = 16) : ∀ j, (decTo W R s j).length = 16
  | 0 => h
  | j + 1 => eachK_len _ _
theorem decTo_byt {W : List Nat} {R : Nat} {s : List Nat} (hW : Byt W) (hs : Byt s) : ∀ j, Byt (decTo W R s j)
  | 0 => hs
  | j + 1 => eachK_byt (shiftK_byt (unmixIf_byt (addK_byt (decTo_byt hW hs j) hW _))) sinv_lt
theorem encK_len (W : List Nat) (R : Nat) (s : List Nat) : (encK W R s).length = 16 := encTo_len W R s R
theorem encK_byt {W : List Nat} {R : Nat} {s : List Nat} (hW : Byt W) (hs : Byt s) : Byt (encK W R s) := encTo_byt hW hs R
theorem decK_len (W : List Nat) (R : Nat) (s : List Nat) : (decK W R s).length = 16 := addK_len _ _ _
theorem decK_byt {W : List Nat} {R : Nat} {s : List Nat} (hW : Byt W) (hs : Byt s) : Byt (decK W R s) := addK_byt (decTo_byt hW hs R) hW 0

/-! memory -/
/-- a state in a block of its own, and the result's place -/
structure EncSt (B g : Nat) (w0 w : World) (s : List Nat) : Prop where
  cur : Bk w g 263 s
  res : Bk w (B + 1) 205 z16
  below : Below B w0 w
  far : B + 1 < g
theorem EncSt.drew {B g : Nat} {w0 w : World} {s : List Nat} (h : EncSt B g w0 w s) : EncSt B g w0 w.drew s := ⟨h.cur.drew, h.res.drew, h.below.drew, h.far⟩
theorem EncSt.call {B g : Nat} {w0 w w1 : World} {s : List Nat} (h : EncSt B g w0 w s) (hb : Below w.heap.size w w1) : EncSt B g w0 w1 s :=
  ⟨h.cur.below hb h.cur.lt, h.res.below hb h.res.lt, h.below.trans (hb.mono (by have := h.res.lt; omega)), h.far⟩
theorem EncSt.row {B g : Nat} {w0 w : World} {s : List Nat} (h : EncSt B g w0 w s) (s' : List Nat) : EncSt B g w0 (w.setRow g (bts s')) s' :=
  ⟨h.cur.row s', h.res.rowFar (by have := h.far; omega) _, Below.row h.below (by have := h.far; omega) _, h.far⟩
theorem words_elem : Try.prog.underlying 258 = some (.slice (Try.prog.elem 258)) := by kernel_rfl
theorem words_size (W : World) : (sizeOf (Try.prog.elem 258)).run Try.prog W = .ok 4 W := by
  have h : (Try.prog.info? (Try.prog.elem 258)).map (·.size) = some 4 := by kernel_rfl
  cases hq : Try.prog.info? (Try.prog.elem 258) with
  | none => rw [hq] at h; cases h
  | some i => rw [hq] at h; simp only [Option.map_some, Option.some.injEq] at h; simp [sizeOf, typeInfo, hq, h]
theorem words_cut (W : World) (b N j : Nat) (h : 4 * j + 4 ≤ N) : (Instr.sliceAt 258 (.slice (some ⟨b, 0, none⟩) N N) (some (.int .i64 (4 * (j : Int)))) (some (.int .i64 (4 * (j : Int) + 4))) none).run Try.prog W = .ok (.slice (some ⟨b, 16 * j, none⟩) 4 (N - 4 * j)) W := by
  rw [run_sliceAt_slice W _ _ _ _ _ words_elem, run_slice_lh W _ _ _ _ words_elem .i64 .i64 (4 * (j : Int)) (4 * (j : Int) + 4) (by omega) (by omega) (by omega), words_size]
  simp only [Result.andThen_ok, sliced]
  rw [if_neg (by omega), show (4 * (j : Int)).toNat = 4 * j from by omega, show (4 * (j : Int) + 4).toNat - 4 * j = 4 from by omega, Option.map_some, Addr.add_mid, Nat.zero_add, show 4 * j * 4 = 16 * j from by omega]
set_option maxRecDepth 100000 in
set_option maxHeartbeats 4000000 in
theorem enc_any (g b N R : Nat) (W x : List Nat) (w : World) (hx : Byt x) (lx : x.length = 16) (hW : Byt W) (lW : W.length = 16 * (R + 1)) (hN : N = 4 * (R + 1)) (hR : 1 ≤ R) (hR2 : R ≤ 14) (hC : Cip w g (.slice (some ⟨b, 0, none⟩) N N) 256) (hB : Bk w b 244 W) :
    Calls Try.prog 146 #[.pointer (some ⟨g, 0, none⟩), .agg (bts x)] w fun e w' => e = .returned (.tuple #[.agg (bts (encK W R x)), .int .i64 0]) ∧ Below w.heap.size w w' := by
  have h0 := hC.head
  have hgl := hC.lt
  have hbl := hB.lt
  have hgl2 : g ≠ w.heap.size := by omega
  have hgl3 : g ≠ w.heap.size + 1 := by omega
  have hNR : IntKind.i64.wrap ((N : Int) / 4) = (R : Int) + 1 := by rw [IntWalk.i64_in _ (by omega)]; omega
  have hN4 : (4 : Int) ≤ (N : Int) := by omega
  have HC := Lib.hid hC
  have HB := Lib.hid hB
  have LX := Lib.hid lx
  have LW := Lib.hid lW
  have HN := Lib.hid hN
  clear hC hB lx lW hN
  go_enter Try.func146, Try.ntmps146
  go_upto_region 4 with (fail)
  go_cut [7] from 19 to 25 (fun v wx => ∃ g7, v = .pointer (some ⟨g7, 0, none⟩) ∧ EncSt w.heap.size g7 w wx (addK x W 0))
  case first =>
    obtain ⟨w2, hw2⟩ : ∃ w2, (w.alloc (Obj.cells (bts x) 205)).alloc (Obj.cells #[Value.int .u8 0, Value.int .u8 0, Value.int .u8 0, Value.int .u8 0, Value.int .u8 0, Value.int .u8 0, Value.int .u8 0, Value.int .u8 0, Value.int .u8 0, Value.int .u8 0, Value.int .u8 0, Value.int .u8 0, Value.int .u8 0, Value.int .u8 0, Value.int .u8 0, Value.int .u8 0] 205) = w2 := ⟨_, rfl⟩
    rw [hw2]
    have hw0 : Below w.heap.size w w2 := by rw [← hw2]; exact ((Below.refl _ _).alloc (Nat.le_refl _) _).alloc (by simp) _
    have hb0 : Bk w2 w.heap.size 205 x := by rw [← hw2]; exact (Bk.newAt _ x rfl).alloc _
    have hb1 : Bk w2 (w.heap.size + 1) 205 z16 := by rw [← hw2]; exact Bk.newAt _ z16 (by simp)
    clear hw2
    refine wp_takes 6 3 (AbW _) rfl (by kernel_rfl) (AbW.refl _) (by kernel_rfl) (by kernel_rfl) (fun _ _ _ d _ h => by cases d <;> exact h) ?_
    simp only [List.take_succ_cons, List.take_zero]
    have hcell : ∀ w', AbW w2.drew w' → w'.cell? ⟨g, 0, none⟩ = some (.slice (some ⟨b, 0, none⟩) N N) := fun w' h => (h.cell (p := ⟨g, 0, none⟩) (show g < w2.heap.size from Nat.lt_of_lt_of_le hgl hw0.size)).trans ((hw0.cell (p := ⟨g, 0, none⟩) hgl).trans h0)
    have hrow : ∀ w', AbW w2.drew w' → Bk w' w.heap.size 205 x := fun w' h => hb0.drew.below h hb0.lt
    refine takesB_loadB rfl 205 (.tmp 3) rfl _ rfl hrow Try.underlying205 (by rw [LX.out]; exact sz16) ?_
    refine takesB_step (v := ?v1) rfl ?h1 ?k1
    case h1 => (intro w' hw'; have hc := hcell w' hw'; go_simp; rfl)
    refine takesB_step (v := ?v2) rfl ?h2 ?k2
    case h2 => (intro w' hw'; have hc := hcell w' hw'; go_simp; rfl)
    refine takesB_step (v := ?v3) rfl ?h3 ?k3
    case h3 => (intro w' hw'; have hc := hcell w' hw'; go_simp; rfl)
    refine takesB_step (v := ?v4) rfl ?h4 ?k4
    case h4 => (intro w' hw'; have hc := hcell w' hw'; go_simp; rfl)
    refine takesB_step (v := ?v5) rfl ?h5 ?k5
    case h5 => (intro w' hw'; have hc := hcell w' hw'; go_simp; rfl)
    refine takesB_nil ?_
    refine wpAnyH_ready (rs := [6, 7]) (by kernel_rfl) (by simp) ?_
    refine AllReadyH.cons (o := ⟨some 25, _, _, _, _, _⟩) rfl (fun K hK => ?_) ?_
    · go_simp
      refine (add_any x W b 0 N hx LX.out hW _ (HB.out.below (hw0.drew) hbl) (by rw [LW.out]; omega)).mono ?_
      rintro e w3 ⟨rfl, hb3⟩
      refine hK.out _ _ hb3 (fun hab => ?_)
      clear hK K
      refine wpAnyH_ready (rs := [7]) (by kernel_rfl) (by simp) ?_
      refine AllReadyH.cons (o := ⟨some 7, _, _, _, _, _⟩) rfl (fun K hK => ?_) AllReadyH.nil
      go_simp
      refine hK.out _ _ (hb3.alloc hb3.size _) (fun _ => ?_)
      clear hK K
      have hz : Bk (w3.alloc (.cells (bts z16) 263)) w3.heap.size 263 z16 := Bk.new _ _ _
      have HZ := Lib.hid hz
      have HA := Lib.hid (hb3.alloc hb3.size (.cells (bts z16) 263))
      have hsz : w2.heap.size ≤ w3.heap.size := hb3.size
      clear hz
      refine wpAnyH_ready (rs := [8]) (by kernel_rfl) (by simp) ?_
      refine AllReadyH.cons (o := ⟨none, .store _ _ _, _, _, _, _⟩) rfl (fun K hK => ?_) AllReadyH.nil
      rw [if_pos (by rfl)]
      refine wp_storeB 263 (.tmp 7) (.tmp 25) rfl _ rfl (addK x W 0) rfl HZ.out (by rw [addK_len]; exact szSt) (by rw [addK_len]; rfl) ?_
      refine hK.out _ _ (Below.row HA.out (show w2.heap.size ≤ w3.heap.size from hsz) _) (fun _ => ?_)
      clear hK K
      refine wpAnyH_done (by kernel_rfl) ?_ _
      go_wp2
      go_meet
      exact ⟨w3.heap.size, rfl, ⟨(Bk.new w3 263 z16).row _, ((hb1.drew.below hb3 hb1.lt).alloc _).rowFar (by have := hb1.lt; omega) _, Below.row ((hw0.drew.trans (hb3.mono hw0.size)).alloc (Nat.le_trans hw0.size hsz) _) (Nat.le_trans hw0.size hsz) _, by have := hb1.lt; omega⟩⟩
    · refine AllReadyH.cons (o := ⟨some 7, _, _, _, _, _⟩) rfl (fun K hK => ?_) AllReadyH.nil
      go_simp
      have hal : Below w2.drew.heap.size w2.drew (w2.drew.alloc (.cells (bts z16) 263)) := (Below.refl _ _).alloc (Nat.le_refl _) _
      refine hK.out _ _ hal (fun _ => ?_)
      clear hK K
      refine wpAnyH_ready (rs := [6]) (by kernel_rfl) (by simp) ?_
      refine AllReadyH.cons (o := ⟨some 25, _, _, _, _, _⟩) rfl (fun K hK => ?_) AllReadyH.nil
      go_simp
      refine (add_any x W b 0 N hx LX.out hW _ ((HB.out.below (hw0.drew) hbl).below hal (Nat.lt_of_lt_of_le hbl hw0.size)) (by rw [LW.out]; omega)).mono ?_
      rintro e w3 ⟨rfl, hb3⟩
      have hw3 : Below w2.drew.heap.size w2.drew w3 := hal.trans (hb3.mono hal.size)
      refine hK.out _ _ hw3 (fun _ => ?_)
      clear hK K
      have hz : Bk w3 w2.heap.size 263 z16 := (Bk.new w2.drew 263 z16).below hb3 (by simp)
      have HZ := Lib.hid hz
      have HA := Lib.hid hw3
      clear hz
      refine wpAnyH_ready (rs := [8]) (by kernel_rfl) (by simp) ?_
      refine AllReadyH.cons (o := ⟨none, .store _ _ _, _, _, _, _⟩) rfl (fun K hK => ?_) AllReadyH.nil
      rw [if_pos (by rfl)]
      refine wp_storeB 263 (.tmp 7) (.tmp 25) rfl _ rfl (addK x W 0) rfl HZ.out (by rw [addK_len]; exact szSt) (by rw [addK_len]; rfl) ?_
      refine hK.out _ _ (Below.row HA.out (Nat.le_refl w2.heap.size) _) (fun _ => ?_)
      clear hK K
      refine wpAnyH_done (by kernel_rfl) ?_ _
      go_wp2
      go_meet
      exact ⟨w2.heap.size, rfl, ⟨HZ.out.row _, (hb1.drew.below HA.out hb1.lt).rowFar (by have := hb1.lt; omega) _, Below.row (hw0.drew.trans (HA.out.mono hw0.size)) hw0.size _, by have := hb1.lt; omega⟩⟩
  case rest =>
    obtain ⟨g7, rfl, hst⟩ := hcut
    have HST := Lib.hid hst
    clear hst
    go_wp2_with fail
    go_loopw [8] (fun v wr => ∃ j : Nat, 1 ≤ j ∧ j ≤ R + 1 ∧ v = .int .i64 j ∧ EncSt w.heap.size g7 w wr (encTo W R x (j - 1))) (fun v _ => R + 1 - (intOf v).toNat)
    case atStart => exact ⟨1, by omega, by omega, rfl, HST.out⟩
    case round =>
      obtain ⟨j, hj1, hj2, rfl, ho⟩ := hrel
      clear HST
      by_cases hlt : j ≤ R
      · have hji : (j : Int) ≤ (R : Int) := by omega
        have hcell : wr.cell? ⟨g, 0, none⟩ = some (.slice (some ⟨b, 0, none⟩) N N) := (ho.below.cell (p := ⟨g, 0, none⟩) hgl).trans h0
        have hc4 := fun W' => words_cut W' b N j (by have := HN.out; omega)
        have hsl : (encTo W R x (j - 1)).length = 16 := encTo_len _ _ _ _
        have hsb : Byt (encTo W R x (j - 1)) := encTo_byt hW hx _
        have hnx : encTo W R x j = rndE W R j (encTo W R x (j - 1)) := by
          conv => lhs; rw [show j = (j - 1) + 1 from by omega]
          rw [encTo, show j - 1 + 1 = j from by omega]
        rw [rndE] at hnx
        generalize encTo W R x (j - 1) = s0 at *
        have HO := Lib.hid ho
        have HSL := Lib.hid hsl
        have HNX := Lib.hid hnx
        clear ho hsl hnx
        go_wp2_with fail
        refine wp_still_tail 4 (by kernel_rfl) (by kernel_rfl) ?_
        simp only [List.take_succ_cons, List.take_zero, List.drop_succ_cons, List.drop_zero]
        refine wpStill_loadB rfl 263 (.tmp 7) rfl _ rfl HO.out.cur.drew Try.underlying263 (by rw [HSL.out]; exact szSt) ?_
        repeat still_step
        refine wpStill_nil ?_
        go_wp2_with fail
        refine (each_any sbox s0 g 1 hsb HSL.out sbox_lt _ (HC.out.tabs.1.below HO.out.below.drew)).mono ?_
        rintro e w1 ⟨rfl, hb1⟩
        have H1 := Lib.hid (HO.out.drew.call hb1)
        clear hb1 HO
        have he : (eachK sbox s0).length = 16 := eachK_len _ _
        have heb : Byt (eachK sbox s0) := eachK_byt hsb sbox_lt
        generalize eachK sbox s0 = s1 at *
        have HE := Lib.hid he
        clear he
        go_wp2_with fail
        refine (shift1_any s1 heb HE.out _).mono ?_
        rintro e w2 ⟨rfl, hb2⟩
        have H2 := Lib.hid (H1.out.call hb2)
        clear hb2 H1
        have hf : (shiftK 1 s1).length = 16 := shiftK_len _ _
        have hfb : Byt (shiftK 1 s1) := shiftK_byt heb
        generalize shiftK 1 s1 = s2 at *
        have HF := Lib.hid hf
        have H3 := Lib.hid (H2.out.row s2)
        clear hf
        by_cases hjR : j < R
        · have hjd : (j : Int) < (R : Int) := by omega
          rw [decide_eq_true hjR] at HNX
          go_wp2_with (first
            | (refine wpList_storeB (o := ⟨none, .store _ (.tmp 7) (.tmp 36), _, _, _, _⟩) rfl 263 (.tmp 7) (.tmp 36) rfl _ rfl s2 rfl H2.out.cur (by rw [HF.out]; exact szSt) (by rw [HF.out, HSL.out]) ?_)
            | (refine wpList_loadB (o := ⟨some 40, _, _, _, _, _⟩) rfl 263 (.tmp 7) rfl _ rfl H3.out.cur Try.underlying263 (by rw [HF.out]; exact szSt) ?_))
          refine (columns_mix s2 hfb HF.out _).mono ?_
          rintro e w3 ⟨rfl, hb3⟩
          have H4 := Lib.hid (H3.out.call hb3)
          clear hb3
          have hg : (colK mix s2).length = 16 := colK_len _ _
          have hgb : Byt (colK mix s2) := colK_byt mix_byt
          rw [mixIf, if_pos rfl] at HNX
          generalize colK mix s2 = s3 at *
          have HG := Lib.hid hg
          have HH := Lib.hid (H4.out.row s3)
          clear hg
          go_wp2_with (refine wpList_storeB (o := ⟨none, .store _ (.tmp 7) (.tmp 41), _, _, _, _⟩) rfl 263 (.tmp 7) (.tmp 41) rfl _ rfl s3 rfl H4.out.cur (by rw [HG.out]; exact szSt) (by rw [HG.out, HF.out]) ?_)
          have hcx := (HH.out.below.cell (p := ⟨g, 0, none⟩) hgl).trans h0
          have hv1 : IntKind.i64.wrap (4 * (j : Int)) = 4 * (j : Int) := IntWalk.i64_in _ (by omega)
          have hv2 : IntKind.i64.wrap (4 * (j : Int) + 4) = 4 * (j : Int) + 4 := IntWalk.i64_in _ (by omega)
          refine wp_still_tail 11 (by kernel_rfl) (by kernel_rfl) ?_
          simp only [List.take_succ_cons, List.take_zero, List.drop_succ_cons, List.drop_zero]
          refine wpStill_loadB rfl 263 (.tmp 7) rfl _ rfl HH.out.cur.drew Try.underlying263 (by rw [HG.out]; exact szSt) ?_
          repeat still_step
          refine wpStill_nil ?_
          clear hcx hv1 hv2
          go_wp2_with fail
          refine (add_any s3 W b (16 * j) (N - 4 * j) hgb HG.out hW _ (HB.out.below HH.out.below.drew hbl) (by rw [LW.out]; omega)).mono ?_
          rintro e w5 ⟨rfl, hb5⟩
          have H5 := Lib.hid (HH.out.drew.call hb5)
          have H6 := Lib.hid (H5.out.row (addK s3 W (16 * j)))
          clear hb5
          have hal : (addK s3 W (16 * j)).length = 16 := addK_len _ _ _
          generalize addK s3 W (16 * j) = s5 at *
          have HAL := Lib.hid hal
          clear hal
          go_wp2_with (refine wpList_storeB (o := ⟨none, .store _ _ _, _, _, _, _⟩) rfl 263 (.tmp 7) (.tmp 53) rfl _ rfl s5 rfl H5.out.cur (by rw [HAL.out]; exact szSt) (by rw [HAL.out, HG.out]) ?_)
          go_roundw
          case rel => exact ⟨j + 1, by omega, by omega, by go_num, by rw [show j + 1 - 1 = j from by omega, HNX.out]; exact H6.out⟩
          case measure => simp [intOf]; omega
        · have hjd : ¬ (j : Int) < (R : Int) := by omega
          rw [decide_eq_false hjR, mixIf, if_neg (by simp)] at HNX
          go_wp2_with (refine wpList_storeB (o := ⟨none, .store _ (.tmp 7) (.tmp 36), _, _, _, _⟩) rfl 263 (.tmp 7) (.tmp 36) rfl _ rfl s2 rfl H2.out.cur (by rw [HF.out]; exact szSt) (by rw [HF.out, HSL.out]) ?_)
          have hcx := (H3.out.below.cell (p := ⟨g, 0, none⟩) hgl).trans h0
          have hv1 : IntKind.i64.wrap (4 * (j : Int)) = 4 * (j : Int) := IntWalk.i64_in _ (by omega)
          have hv2 : IntKind.i64.wrap (4 * (j : Int) + 4) = 4 * (j : Int) + 4 := IntWalk.i64_in _ (by omega)
          refine wp_still_tail 11 (by kernel_rfl) (by kernel_rfl) ?_
          simp only [List.take_succ_cons, List.take_zero, List.drop_succ_cons, List.drop_zero]
          refine wpStill_loadB rfl 263 (.tmp 7) rfl _ rfl H3.out.cur.drew Try.underlying263 (by rw [HF.out]; exact szSt) ?_
          repeat still_step
          refine wpStill_nil ?_
          clear hcx hv1 hv2
          go_wp2_with fail
          refine (add_any s2 W b (16 * j) (N - 4 * j) hfb HF.out hW _ (HB.out.below H3.out.below.drew hbl) (by rw [LW.out]; omega)).mono ?_
          rintro e w5 ⟨rfl, hb5⟩
          have H5 := Lib.hid (H3.out.drew.call hb5)
          have H6 := Lib.hid (H5.out.row (addK s2 W (16 * j)))
          clear hb5
          have hal : (addK s2 W (16 * j)).length = 16 := addK_len _ _ _
          generalize addK s2 W (16 * j) = s5 at *
          have HAL := Lib.hid hal
          clear hal
          go_wp2_with (refine wpList_storeB (o := ⟨none, .store _ _ _, _, _, _, _⟩) rfl 263 (.tmp 7) (.tmp 53) rfl _ rfl s5 rfl H5.out.cur (by rw [HAL.out]; exact szSt) (by rw [HAL.out, HF.out]) ?_)
          go_roundw
          case rel => exact ⟨j + 1, by omega, by omega, by go_num, by rw [show j + 1 - 1 = j from by omega, HNX.out]; exact H6.out⟩
          case measure => simp [intOf]; omega
      · have hj3 : j - 1 = R := by omega
        have hl : (encK W R x).length = 16 := encK_len _ _ _
        have ho2 : EncSt w.heap.size g7 w wr (encK W R x) := by rw [hj3] at ho; exact ho
        have hri : (R : Int) < (j : Int) := by omega
        clear ho hj3
        generalize hye : encK W R x = y at hl ho2
        have HYE := Lib.hid hye
        clear hye
        have HY := Lib.hid hl
        have HO := Lib.hid ho2
        clear hl ho2
        go_wp2_with (first
          | (refine wpList_loadB (o := ⟨some 54, _, _, _, _, _⟩) rfl 263 (.tmp 7) rfl _ rfl HO.out.cur Try.underlying263 (by rw [HY.out]; exact szSt) ?_)
          | (refine wpList_storeB (o := ⟨none, .store _ (.tmp 4) (.tmp 54), _, _, _, _⟩) rfl 205 (.tmp 4) (.tmp 54) rfl _ rfl y rfl HO.out.res (by rw [HY.out]; exact sz16) (by rw [HY.out]; rfl) ?_))
        refine bodyPost_ret (results_bts2 Try.results146 _ _ _ rfl (HO.out.res.row y) Try.underlying205 (by rw [HY.out]; exact sz16)) rfl ?_
        exact ⟨by rw [HYE.out]; rfl, Below.row HO.out.below (by omega) _⟩
end Go.Proofs.Ytmeakfocppooiaa
