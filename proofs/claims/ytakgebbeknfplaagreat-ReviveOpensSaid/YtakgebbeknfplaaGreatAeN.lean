/-
  WALKS: Encrypt and Decrypt.
  WALKS: the reference's steps: add, moved, column.
-/
import Derived.Test.YtakgebbeknfplaaGreatAeK
import Derived.Test.YtakgebbeknfplaaGreatCtC
import Derived.Outline
import Derived.Deep.RegionHeld3
import Derived.Deep.DeepCutAuto
namespace Go.Proofs.YtakgebbeknfplaaGreat
open Go.RowKit
set_option linter.unusedVariables false

/-! the rounds -/
def mixIf (b : Bool) (s : List Nat) : List Nat := if b then colK mix s else s
def unmixIf (b : Bool) (s : List Nat) : List Nat := if b then colK unmix s else s
def rndE (W : List Nat) (R j : Nat) (s : List Nat) : List Nat := addK (mixIf (decide (j < R)) (shiftK 1 (eachK sbox s))) W (16 * j)
def encTo (W : List Nat) (R : Nat) (s : List Nat) : Nat → List Nat
  | 0 => addK s W 0
  | j + 1 => rndE W R (j + 1) (encTo W R s j)
def encK (W : List Nat) (R : Nat) (s : List Nat) : List Nat := encTo W R s R
def rndD (W : List Nat) (R j : Nat) (s : List Nat) : List Nat := eachK sinv (shiftK 3 (unmixIf (decide (j < R)) (addK s W (16 * j))))
def decTo (W : List Nat) (R : Nat) (s : List Nat) : Nat → List Nat
  | 0 => s
  | k + 1 => rndD W R (R - k) (decTo W R s k)
def decK (W : List Nat) (R : Nat) (s : List Nat) : List Nat := addK (decTo W R s R) W 0
theorem mixIf_len (b : Bool) (s : List Nat) (h : s.length = 16) : (mixIf b s).length = 16 := by unfold mixIf; split <;> simp [colK_len, h]
theorem mixIf_byt {b : Bool} {s : List Nat} (h : Byt s) : Byt (mixIf b s) := by unfold mixIf; split; exact colK_byt mix_byt; exact h
theorem unmixIf_len (b : Bool) (s : List Nat) (h : s.length = 16) : (unmixIf b s).length = 16 := by unfold unmixIf; split <;> simp [colK_len, h]
theorem unmixIf_byt {b : Bool} {s : List Nat} (h : Byt s) : Byt (unmixIf b s) := by unfold unmixIf; split; exact colK_byt unmix_byt; exact h
theorem encTo_len (W : List Nat) (R : Nat) (s : List Nat) : ∀ j, (encTo W R s j).length = 16
  | 0 => addK_len _ _ _
  | j + 1 => addK_len _ _ _
theorem encTo_byt {W : List Nat} {R : Nat} {s : List Nat} (hW : Byt W) (hs : Byt s) : ∀ j, Byt (encTo W R s j)
  | 0 => addK_byt hs hW _
  | j + 1 => addK_byt (mixIf_byt (shiftK_byt (eachK_byt (encTo_byt hW hs j) sbox_lt))) hW _
theorem decTo_len (W : List Nat) (R : Nat) (s : List Nat) (h : s.length = 16) : ∀ j, (decTo W R s j).length = 16
  | 0 => h
  | j + 1 => eachK_len _ _
theorem decTo_byt {W : List Nat} {R : Nat} {s : List Nat} (hW : Byt W) (hs : Byt s) : ∀ j, Byt (decTo W R s j)
  | 0 => hs
  | j + 1 => eachK_byt (shiftK_byt (unmixIf_byt (addK_byt (decTo_byt hW hs j) hW _))) sinv_lt
theorem encK_len (W : List Nat) (R : Nat) (s : List Nat) : (encK W R s).length = 16 := encTo_len W R s R
theorem encK_byt {W : List Nat} {R : Nat} {s : List Nat} (hW : Byt W) (hs : Byt s) : Byt (encK W R s) := encTo_byt hW hs R
theorem decK_len (W : List Nat) (R : Nat) (s : List Nat) : (decK W R s).length = 16 := addK_len _ _ _
theorem decK_byt {W : List Nat} {R : Nat} {s : List Nat} (hW : Byt W) (hs : Byt s) : Byt (decK W R s) := addK_byt (decTo_byt hW hs R) hW 0

/-! memory -/
/-- a state in a block of its own, and the result's place -/
structure EncSt (B g : Nat) (w0 w : World) (s : List Nat) : Prop where
  cur : Bk w g 412 s
  res : Bk w (B + 1) 365 z16
  below : Below B w0 w
  far : B + 1 < g
theorem EncSt.drew {B g : Nat} {w0 w : World} {s : List Nat} (h : EncSt B g w0 w s) : EncSt B g w0 w.drew s := ⟨h.cur.drew, h.res.drew, h.below.drew, h.far⟩
theorem EncSt.call {B g : Nat} {w0 w w1 : World} {s : List Nat} (h : EncSt B g w0 w s) (hb : Below w.heap.size w w1) : EncSt B g w0 w1 s :=
  ⟨h.cur.below hb h.cur.lt, h.res.below hb h.res.lt, h.below.trans (hb.mono (by have := h.res.lt; omega)), h.far⟩
theorem EncSt.row {B g : Nat} {w0 w : World} {s : List Nat} (h : EncSt B g w0 w s) (s' : List Nat) : EncSt B g w0 (w.setRow g (bts s')) s' :=
  ⟨h.cur.row s', h.res.rowFar (by have := h.far; omega) _, Below.row h.below (by have := h.far; omega) _, h.far⟩
theorem words_elem : Tryz.prog.underlying 406 = some (.slice (Tryz.prog.elem 406)) := by kernel_rfl
theorem words_size (W : World) : (sizeOf (Tryz.prog.elem 406)).run Tryz.prog W = .ok 4 W := by
  have h : (Tryz.prog.info? (Tryz.prog.elem 406)).map (·.size) = some 4 := by kernel_rfl
  cases hq : Tryz.prog.info? (Tryz.prog.elem 406) with
  | none => rw [hq] at h; cases h
  | some i => rw [hq] at h; simp only [Option.map_some, Option.some.injEq] at h; simp [sizeOf, typeInfo, hq, h]
theorem words_cut (W : World) (b N j : Nat) (h : 4 * j + 4 ≤ N) : (Instr.sliceAt 406 (.slice (some ⟨b, 0, none⟩) N N) (some (.int .i64 (4 * (j : Int)))) (some (.int .i64 (4 * (j : Int) + 4))) none).run Tryz.prog W = .ok (.slice (some ⟨b, 16 * j, none⟩) 4 (N - 4 * j)) W := by
  rw [run_sliceAt_slice W _ _ _ _ _ words_elem, run_slice_lh W _ _ _ _ words_elem .i64 .i64 (4 * (j : Int)) (4 * (j : Int) + 4) (by omega) (by omega) (by omega), words_size]
  simp only [Result.andThen_ok, sliced]
  rw [if_neg (by omega), show (4 * (j : Int)).toNat = 4 * j from by omega, show (4 * (j : Int) + 4).toNat - 4 * j = 4 from by omega, Option.map_some, Addr.add_mid, Nat.zero_add, show 4 * j * 4 = 16 * j from by omega]
set_option maxRecDepth 100000 in
set_option maxHeartbeats 4000000 in
theorem enc_any (g b N R : Nat) (W x : List Nat) (w : World) (hx : Byt x) (lx : x.length = 16) (hW : Byt W) (lW : W.length = 16 * (R + 1)) (hN : N = 4 * (R + 1)) (hR : 1 ≤ R) (hR2 : R ≤ 14) (hC : Cip w g (.slice (some ⟨b, 0, none⟩) N N) 256) (hB : Bk w b 432 W) :
    Calls Tryz.prog 262 #[.pointer (some ⟨g, 0, none⟩), .agg (bts x)] w fun e w' => e = .returned (.tuple #[.agg (bts (encK W R x)), .int .i64 0]) ∧ Below w.heap.size w w' := by
  have h0 := hC.head
  have hgl := hC.lt
  have hbl := hB.lt
  have hgl2 : g ≠ w.heap.size := by omega
  have hgl3 : g ≠ w.heap.size + 1 := by omega
  have hNR : IntKind.i64.wrap ((N : Int) / 4) = (R : Int) + 1 := by rw [IntWalk.i64_in _ (by omega)]; omega
  have hN4 : (4 : Int) ≤ (N : Int) := by omega
  have HC := Lib.hid hC
  have HB := Lib.hid hB
  have LX := Lib.hid lx
  have LW := Lib.hid lW
  have HN := Lib.hid hN
  clear hC hB lx lW hN
  go_enter Tryz.func262, Tryz.ntmps262
  go_upto_region 4 with (fail)
  go_cut [7] from 19 to 25 (fun v wx => ∃ g7, v = .pointer (some ⟨g7, 0, none⟩) ∧ EncSt w.heap.size g7 w wx (addK x W 0))
  case first =>
    obtain ⟨w2, hw2⟩ : ∃ w2, (w.alloc (Obj.cells (bts x) 365)).alloc (Obj.cells #[Value.int .u8 0, Value.int .u8 0, Value.int .u8 0, Value.int .u8 0, Value.int .u8 0, Value.int .u8 0, Value.int .u8 0, Value.int .u8 0, Value.int .u8 0, Value.int .u8 0, Value.int .u8 0, Value.int .u8 0, Value.int .u8 0, Value.int .u8 0, Value.int .u8 0, Value.int .u8 0] 365) = w2 := ⟨_, rfl⟩
    rw [hw2]
    have hw0 : Below w.heap.size w w2 := by rw [← hw2]; exact ((Below.refl _ _).alloc (Nat.le_refl _) _).alloc (by simp) _
    have hb0 : Bk w2 w.heap.size 365 x := by rw [← hw2]; exact (Bk.newAt _ x rfl).alloc _
    have hb1 : Bk w2 (w.heap.size + 1) 365 z16 := by rw [← hw2]; exact Bk.newAt _ z16 (by simp)
    clear hw2
    refine wp_takes 6 3 (AbW _) rfl (by kernel_rfl) (AbW.refl _) (by kernel_rfl) (by kernel_rfl) (fun _ _ _ d _ h => by cases d <;> exact h) ?_
    simp only [List.take_succ_cons, List.take_zero]
    have hcell : ∀ w', AbW w2.drew w' → w'.cell? ⟨g, 0, none⟩ = some (.slice (some ⟨b, 0, none⟩) N N) := fun w' h => (h.cell (p := ⟨g, 0, none⟩) (show g < w2.heap.size from Nat.lt_of_lt_of_le hgl hw0.size)).trans ((hw0.cell (p := ⟨g, 0, none⟩) hgl).trans h0)
    have hrow : ∀ w', AbW w2.drew w' → Bk w' w.heap.size 365 x := fun w' h => hb0.drew.below h hb0.lt
    refine takesB_loadB rfl 365 (.tmp 3) rfl _ rfl hrow Tryz.underlying365 (by rw [LX.out]; exact sz16) ?_
    refine takesB_step (v := ?v1) rfl ?h1 ?k1
    case h1 => (intro w' hw'; have hc := hcell w' hw'; go_simp; rfl)
    refine takesB_step (v := ?v2) rfl ?h2 ?k2
    case h2 => (intro w' hw'; have hc := hcell w' hw'; go_simp; rfl)
    refine takesB_step (v := ?v3) rfl ?h3 ?k3
    case h3 => (intro w' hw'; have hc := hcell w' hw'; go_simp; rfl)
    refine takesB_step (v := ?v4) rfl ?h4 ?k4
    case h4 => (intro w' hw'; have hc := hcell w' hw'; go_simp; rfl)
    refine takesB_step (v := ?v5) rfl ?h5 ?k5
    case h5 => (intro w' hw'; have hc := hcell w' hw'; go_simp; rfl)
    refine takesB_nil ?_
    refine wpAnyH_ready (rs := [6, 7]) (by kernel_rfl) (by simp) ?_
    refine AllReadyH.cons (o := ⟨some 25, _, _, _, _, _⟩) rfl (fun K hK => ?_) ?_
    · go_simp
      refine (add_any x W b 0 N hx LX.out hW _ (HB.out.below (hw0.drew) hbl) (by rw [LW.out]; omega)).mono ?_
      rintro e w3 ⟨rfl, hb3⟩
      refine hK.out _ _ hb3 (fun hab => ?_)
      clear hK K
      refine wpAnyH_ready (rs := [7]) (by kernel_rfl) (by simp) ?_
      refine AllReadyH.cons (o := ⟨some 7, _, _, _, _, _⟩) rfl (fun K hK => ?_) AllReadyH.nil
      go_simp
      refine hK.out _ _ (hb3.alloc hb3.size _) (fun _ => ?_)
      clear hK K
      have hz : Bk (w3.alloc (.cells (bts z16) 412)) w3.heap.size 412 z16 := Bk.new _ _ _
      have HZ := Lib.hid hz
      have HA := Lib.hid (hb3.alloc hb3.size (.cells (bts z16) 412))
      have hsz : w2.heap.size ≤ w3.heap.size := hb3.size
      clear hz
      refine wpAnyH_ready (rs := [8]) (by kernel_rfl) (by simp) ?_
      refine AllReadyH.cons (o := ⟨none, .store _ _ _, _, _, _, _⟩) rfl (fun K hK => ?_) AllReadyH.nil
      rw [if_pos (by rfl)]
      refine wp_storeB 412 (.tmp 7) (.tmp 25) rfl _ rfl (addK x W 0) rfl HZ.out (by rw [addK_len]; exact szSt) (by rw [addK_len]; rfl) ?_
      refine hK.out _ _ (Below.row HA.out (show w2.heap.size ≤ w3.heap.size from hsz) _) (fun _ => ?_)
      clear hK K
      refine wpAnyH_done (by kernel_rfl) ?_ _
      go_wp2
      go_meet
      exact ⟨w3.heap.size, rfl, ⟨(Bk.new w3 412 z16).row _, ((hb1.drew.below hb3 hb1.lt).alloc _).rowFar (by have := hb1.lt; omega) _, Below.row ((hw0.drew.trans (hb3.mono hw0.size)).alloc (Nat.le_trans hw0.size hsz) _) (Nat.le_trans hw0.size hsz) _, by have := hb1.lt; omega⟩⟩
    · refine AllReadyH.cons (o := ⟨some 7, _, _, _, _, _⟩) rfl (fun K hK => ?_) AllReadyH.nil
      go_simp
      have hal : Below w2.drew.heap.size w2.drew (w2.drew.alloc (.cells (bts z16) 412)) := (Below.refl _ _).alloc (Nat.le_refl _) _
      refine hK.out _ _ hal (fun _ => ?_)
      clear hK K
      refine wpAnyH_ready (rs := [6]) (by kernel_rfl) (by simp) ?_
      refine AllReadyH.cons (o := ⟨some 25, _, _, _, _, _⟩) rfl (fun K hK => ?_) AllReadyH.nil
      go_simp
      refine (add_any x W b 0 N hx LX.out hW _ ((HB.out.below (hw0.drew) hbl).below hal (Nat.lt_of_lt_of_le hbl hw0.size)) (by rw [LW.out]; omega)).mono ?_
      rintro e w3 ⟨rfl, hb3⟩
      have hw3 : Below w2.drew.heap.size w2.drew w3 := hal.trans (hb3.mono hal.size)
      refine hK.out _ _ hw3 (fun _ => ?_)
      clear hK K
      have hz : Bk w3 w2.heap.size 412 z16 := (Bk.new w2.drew 412 z16).below hb3 (by simp)
      have HZ := Lib.hid hz
      have HA := Lib.hid hw3
      clear hz
      refine wpAnyH_ready (rs := [8]) (by kernel_rfl) (by simp) ?_
      refine AllReadyH.cons (o := ⟨none, .store _ _ _, _, _, _, _⟩) rfl (fun K hK => ?_) AllReadyH.nil
      rw [if_pos (by rfl)]
      refine wp_storeB 412 (.tmp 7) (.tmp 25) rfl _ rfl (addK x W 0) rfl HZ.out (by rw [addK_len]; exact szSt) (by rw [addK_len]; rfl) ?_
      refine hK.out _ _ (Below.row HA.out (Nat.le_refl w2.heap.size) _) (fun _ => ?_)
      clear hK K
      refine wpAnyH_done (by kernel_rfl) ?_ _
      go_wp2
      go_meet
      exact ⟨w2.heap.size, rfl, ⟨HZ.out.row _, (hb1.drew.below HA.out hb1.lt).rowFar (by have := hb1.lt; omega) _, Below.row (hw0.drew.trans (HA.out.mono hw0.size)) hw0.size _, by have := hb1.lt; omega⟩⟩
  case rest =>
    obtain ⟨g7, rfl, hst⟩ := hcut
    have HST := Lib.hid hst
    clear hst
    go_wp2_with fail
    go_loopw [8] (fun v wr => ∃ j : Nat, 1 ≤ j ∧ j ≤ R + 1 ∧ v = .int .i64 j ∧ EncSt w.heap.size g7 w wr (encTo W R x (j - 1))) (fun v _ => R + 1 - (intOf v).toNat)
    case atStart => exact ⟨1, by omega, by omega, rfl, HST.out⟩
    case round =>
      obtain ⟨j, hj1, hj2, rfl, ho⟩ := hrel
      clear HST
      by_cases hlt : j ≤ R
      · have hji : (j : Int) ≤ (R : Int) := by omega
        have hcell : wr.cell? ⟨g, 0, none⟩ = some (.slice (some ⟨b, 0, none⟩) N N) := (ho.below.cell (p := ⟨g, 0, none⟩) hgl).trans h0
        have hc4 := fun W' => words_cut W' b N j (by have := HN.out; omega)
        have hsl : (encTo W R x (j - 1)).length = 16 := encTo_len _ _ _ _
        have hsb : Byt (encTo W R x (j - 1)) := encTo_byt hW hx _
        have hnx : encTo W R x j = rndE W R j (encTo W R x (j - 1)) := by
          conv => lhs; rw [show j = (j - 1) + 1 from by omega]
          rw [encTo, show j - 1 + 1 = j from by omega]
        rw [rndE] at hnx
        generalize encTo W R x (j - 1) = s0 at *
        have HO := Lib.hid ho
        have HSL := Lib.hid hsl
        have HNX := Lib.hid hnx
        clear ho hsl hnx
        go_wp2_with fail
        refine wp_still_tail 4 (by kernel_rfl) (by kernel_rfl) ?_
        simp only [List.take_succ_cons, List.take_zero, List.drop_succ_cons, List.drop_zero]
        refine wpStill_loadB rfl 412 (.tmp 7) rfl _ rfl HO.out.cur.drew Tryz.underlying412 (by rw [HSL.out]; exact szSt) ?_
        repeat still_step
        refine wpStill_nil ?_
        go_wp2_with fail
        refine (each_any sbox s0 g 1 hsb HSL.out sbox_lt _ (HC.out.tabs.1.below HO.out.below.drew)).mono ?_
        rintro e w1 ⟨rfl, hb1⟩
        have H1 := Lib.hid (HO.out.drew.call hb1)
        clear hb1 HO
        have he : (eachK sbox s0).length = 16 := eachK_len _ _
        have heb : Byt (eachK sbox s0) := eachK_byt hsb sbox_lt
        generalize eachK sbox s0 = s1 at *
        have HE := Lib.hid he
        clear he
        go_wp2_with fail
        refine (shift1_any s1 heb HE.out _).mono ?_
        rintro e w2 ⟨rfl, hb2⟩
        have H2 := Lib.hid (H1.out.call hb2)
        clear hb2 H1
        have hf : (shiftK 1 s1).length = 16 := shiftK_len _ _
        have hfb : Byt (shiftK 1 s1) := shiftK_byt heb
        generalize shiftK 1 s1 = s2 at *
        have HF := Lib.hid hf
        have H3 := Lib.hid (H2.out.row s2)
        clear hf
        by_cases hjR : j < R
        · have hjd : (j : Int) < (R : Int) := by omega
          rw [decide_eq_true hjR] at HNX
          go_wp2_with (first
            | (refine wpList_storeB (o := ⟨none, .store _ (.tmp 7) (.tmp 36), _, _, _, _⟩) rfl 412 (.tmp 7) (.tmp 36) rfl _ rfl s2 rfl H2.out.cur (by rw [HF.out]; exact szSt) (by rw [HF.out, HSL.out]) ?_)
            | (refine wpList_loadB (o := ⟨some 40, _, _, _, _, _⟩) rfl 412 (.tmp 7) rfl _ rfl H3.out.cur Tryz.underlying412 (by rw [HF.out]; exact szSt) ?_))
          refine (columns_mix s2 hfb HF.out _).mono ?_
          rintro e w3 ⟨rfl, hb3⟩
          have H4 := Lib.hid (H3.out.call hb3)
          clear hb3
          have hg : (colK mix s2).length = 16 := colK_len _ _
          have hgb : Byt (colK mix s2) := colK_byt mix_byt
          rw [mixIf, if_pos rfl] at HNX
          generalize colK mix s2 = s3 at *
          have HG := Lib.hid hg
          have HH := Lib.hid (H4.out.row s3)
          clear hg
          go_wp2_with (refine wpList_storeB (o := ⟨none, .store _ (.tmp 7) (.tmp 41), _, _, _, _⟩) rfl 412 (.tmp 7) (.tmp 41) rfl _ rfl s3 rfl H4.out.cur (by rw [HG.out]; exact szSt) (by rw [HG.out, HF.out]) ?_)
          have hcx := (HH.out.below.cell (p := ⟨g, 0, none⟩) hgl).trans h0
          have hv1 : IntKind.i64.wrap (4 * (j : Int)) = 4 * (j : Int) := IntWalk.i64_in _ (by omega)
          have hv2 : IntKind.i64.wrap (4 * (j : Int) + 4) = 4 * (j : Int) + 4 := IntWalk.i64_in _ (by omega)
          refine wp_still_tail 11 (by kernel_rfl) (by kernel_rfl) ?_
          simp only [List.take_succ_cons, List.take_zero, List.drop_succ_cons, List.drop_zero]
          refine wpStill_loadB rfl 412 (.tmp 7) rfl _ rfl HH.out.cur.drew Tryz.underlying412 (by rw [HG.out]; exact szSt) ?_
          repeat still_step
          refine wpStill_nil ?_
          clear hcx hv1 hv2
          go_wp2_with fail
          refine (add_any s3 W b (16 * j) (N - 4 * j) hgb HG.out hW _ (HB.out.below HH.out.below.drew hbl) (by rw [LW.out]; omega)).mono ?_
          rintro e w5 ⟨rfl, hb5⟩
          have H5 := Lib.hid (HH.out.drew.call hb5)
          have H6 := Lib.hid (H5.out.row (addK s3 W (16 * j)))
          clear hb5
          have hal : (addK s3 W (16 * j)).length = 16 := addK_len _ _ _
          generalize addK s3 W (16 * j) = s5 at *
          have HAL := Lib.hid hal
          clear hal
          go_wp2_with (refine wpList_storeB (o := ⟨none, .store _ _ _, _, _, _, _⟩) rfl 412 (.tmp 7) (.tmp 53) rfl _ rfl s5 rfl H5.out.cur (by rw [HAL.out]; exact szSt) (by rw [HAL.out, HG.out]) ?_)
          go_roundw
          case rel => exact ⟨j + 1, by omega, by omega, by go_num, by rw [show j + 1 - 1 = j from by omega, HNX.out]; exact H6.out⟩
          case measure => simp [intOf]; omega
        · have hjd : ¬ (j : Int) < (R : Int) := by omega
          rw [decide_eq_false hjR, mixIf, if_neg (by simp)] at HNX
          go_wp2_with (refine wpList_storeB (o := ⟨none, .store _ (.tmp 7) (.tmp 36), _, _, _, _⟩) rfl 412 (.tmp 7) (.tmp 36) rfl _ rfl s2 rfl H2.out.cur (by rw [HF.out]; exact szSt) (by rw [HF.out, HSL.out]) ?_)
          have hcx := (H3.out.below.cell (p := ⟨g, 0, none⟩) hgl).trans h0
          have hv1 : IntKind.i64.wrap (4 * (j : Int)) = 4 * (j : Int) := IntWalk.i64_in _ (by omega)
          have hv2 : IntKind.i64.wrap (4 * (j : Int) + 4) = 4 * (j : Int) + 4 := IntWalk.i64_in _ (by omega)
          refine wp_still_tail 11 (by kernel_rfl) (by kernel_rfl) ?_
          simp only [List.take_succ_cons, List.take_zero, List.drop_succ_cons, List.drop_zero]
          refine wpStill_loadB rfl 412 (.tmp 7) rfl _ rfl H3.out.cur.drew Tryz.underlying412 (by rw [HF.out]; exact szSt) ?_
          repeat still_step
          refine wpStill_nil ?_
          clear hcx hv1 hv2
          go_wp2_with fail
          refine (add_any s2 W b (16 * j) (N - 4 * j) hfb HF.out hW _ (HB.out.below H3.out.below.drew hbl) (by rw [LW.out]; omega)).mono ?_
          rintro e w5 ⟨rfl, hb5⟩
          have H5 := Lib.hid (H3.out.drew.call hb5)
          have H6 := Lib.hid (H5.out.row (addK s2 W (16 * j)))
          clear hb5
          have hal : (addK s2 W (16 * j)).length = 16 := addK_len _ _ _
          generalize addK s2 W (16 * j) = s5 at *
          have HAL := Lib.hid hal
          clear hal
          go_wp2_with (refine wpList_storeB (o := ⟨none, .store _ _ _, _, _, _, _⟩) rfl 412 (.tmp 7) (.tmp 53) rfl _ rfl s5 rfl H5.out.cur (by rw [HAL.out]; exact szSt) (by rw [HAL.out, HF.out]) ?_)
          go_roundw
          case rel => exact ⟨j + 1, by omega, by omega, by go_num, by rw [show j + 1 - 1 = j from by omega, HNX.out]; exact H6.out⟩
          case measure => simp [intOf]; omega
      · have hj3 : j - 1 = R := by omega
        have hl : (encK W R x).length = 16 := encK_len _ _ _
        have ho2 : EncSt w.heap.size g7 w wr (encK W R x) := by rw [hj3] at ho; exact ho
        have hri : (R : Int) < (j : Int) := by omega
        clear ho hj3
        generalize hye : encK W R x = y at hl ho2
        have HYE := Lib.hid hye
        clear hye
        have HY := Lib.hid hl
        have HO := Lib.hid ho2
        clear hl ho2
        go_wp2_with (first
          | (refine wpList_loadB (o := ⟨some 54, _, _, _, _, _⟩) rfl 412 (.tmp 7) rfl _ rfl HO.out.cur Tryz.underlying412 (by rw [HY.out]; exact szSt) ?_)
          | (refine wpList_storeB (o := ⟨none, .store _ (.tmp 4) (.tmp 54), _, _, _, _⟩) rfl 365 (.tmp 4) (.tmp 54) rfl _ rfl y rfl HO.out.res (by rw [HY.out]; exact sz16) (by rw [HY.out]; rfl) ?_))
        refine bodyPost_ret (results_bts2 Tryz.results262 _ _ _ rfl (HO.out.res.row y) Tryz.underlying365 (by rw [HY.out]; exact sz16)) rfl ?_
        exact ⟨by rw [HYE.out]; rfl, Below.row HO.out.below (by omega) _⟩
end Go.Proofs.YtakgebbeknfplaaGreat

namespace Go.Proofs.YtakgebbeknfplaaGreat
open Go.RowKit
set_option linter.unusedVariables false

/-- bytes from a block's head on -/
structure Rw (w : World) (g : Nat) (W : List Nat) : Prop where
  lt : g < w.heap.size
  cell : ∀ i, i < W.length → w.cell? ⟨g, i, none⟩ = some (.int .u8 (at' W i : Nat))
theorem Rw.below {w w' : World} {g B : Nat} {W : List Nat} (h : Rw w g W) (hb : Below B w w') (hB : g < B) (hs : w.heap.size ≤ w'.heap.size := by exact Below.size (by assumption)) : Rw w' g W :=
  ⟨Nat.lt_of_lt_of_le h.lt hs, fun i hi => (hb.cell (p := ⟨g, i, none⟩) hB).trans (h.cell i hi)⟩
theorem Rw.ab {w w' : World} {g : Nat} {W : List Nat} (h : Rw w g W) (hb : Below w.heap.size w w') : Rw w' g W :=
  ⟨Nat.lt_of_lt_of_le h.lt hb.size, fun i hi => (hb.cell (p := ⟨g, i, none⟩) h.lt).trans (h.cell i hi)⟩

set_option maxRecDepth 100000 in
set_option maxHeartbeats 1000000 in
theorem rAdd_any (s W : List Nat) (g n c j : Nat) (hs : Byt s) (ls : s.length = 16) (hW : Byt W) (lW : W.length = n) (w : World) (hr : Rw w g W) (hj : 16 * j + 16 ≤ n) (hn : n ≤ 100000) (hc : n ≤ c) (hcm : c ≤ 9223372036854775807) :
    Calls Tryz.prog 324 #[.agg (bts s), .slice (some ⟨g, 0, none⟩) n c, .int .i64 (j : Int)] w fun e w' => e = .returned (.agg (bts (addK s W (16 * j)))) ∧ Below w.heap.size w w' := by
  have LS := Lib.hid ls
  have LW := Lib.hid lW
  have HR := Lib.hid hr
  clear ls hr lW
  have hst := Lib.hid (St16.start w 365 s)
  go_enter Tryz.func324, Tryz.ntmps324
  go_wp2_with fail
  go_loopw [7] (fun v wr => ∃ k : Nat, k ≤ 16 ∧ v = .int .i64 k ∧ St16 w.heap.size 365 w wr (upd (addF s W (16 * j)) s k)) (fun v _ => 16 - (intOf v).toNat)
  case atStart => exact ⟨0, by omega, rfl, by rw [upd_zero]; exact hst.out⟩
  case round =>
    obtain ⟨k, hk, rfl, hin⟩ := hrel
    clear hst
    by_cases hlt : k < 16
    · have hki : (k : Int) < 16 := by omega
      have c1 := hin.cur.cell (k := k) (by rw [upd_len, LS.out]; exact hlt)
      rw [upd_cell (by rw [LS.out]; exact hlt)] at c1
      have f1 := hin.cur.free k
      have c2 := (HR.out.ab hin.below).cell (16 * j + k) (by rw [LW.out]; omega)
      have hx := hs.get k
      have hy := hW.at' (16 * j + k)
      have hF : addF s W (16 * j) k = s[k]?.getD 0 ^^^ at' W (16 * j + k) := rfl
      generalize s[k]?.getD 0 = x at c1 hx hF
      generalize at' W (16 * j + k) = y at c2 hy hF
      have hxo := bits_xor_u8 x y hx hy
      have hv1 : IntKind.i64.wrap (16 * (j : Int)) = 16 * (j : Int) := IntWalk.i64_in _ (by omega)
      have hv2 : IntKind.i64.wrap (16 * (j : Int) + (k : Int)) = 16 * (j : Int) + (k : Int) := IntWalk.i64_in _ (by omega)
      have hv3 : 16 * (j : Int) + (k : Int) < (n : Int) := by omega
      have hv4 : (0 : Int) ≤ 16 * (j : Int) + (k : Int) := by omega
      have hv5 : (16 * (j : Int) + (k : Int)).toNat = 16 * j + k := by omega
      have HF := Lib.hid hF
      have HI := Lib.hid hin
      clear hF hin
      go_wp2_with fail
      refine wp_still_tail 13 (by kernel_rfl) (by kernel_rfl) ?_
      simp only [List.take_succ_cons, List.take_zero, List.drop_succ_cons, List.drop_zero]
      repeat still_step
      refine wpStill_nil ?_
      clear hv1 hv2 hv5
      go_wp2
      go_roundw
      case rel => exact ⟨k + 1, by omega, by go_num, HI.out.set (by rw [LS.out]; exact hlt) (by rw [HF.out])⟩
      case measure => simp [intOf]; omega
    · obtain rfl : k = 16 := by omega
      have h1 := hin.cur
      have e1 : upd (addF s W (16 * j)) s 16 = addK s W (16 * j) := by
        have := upd_all (addF s W (16 * j)) s
        rw [LS.out] at this
        exact this
      rw [e1] at h1
      have hal : (addK s W (16 * j)).length = 16 := addK_len _ _ _
      generalize hye : addK s W (16 * j) = y at h1 hal
      have HYE := Lib.hid hye
      clear hye
      have H1 := Lib.hid h1
      have H2 := Lib.hid hin.res
      have HB2 := Lib.hid hin.below
      have HA := Lib.hid hal
      clear h1 hin e1 hal
      go_wp2_with (first
        | (refine wpList_loadB (o := ⟨some 25, _, _, _, _, _⟩) rfl 365 (.tmp 3) rfl _ rfl H1.out Tryz.underlying365 (by rw [HA.out]; exact sz16) ?_)
        | (refine wpList_storeB (o := ⟨none, .store _ _ _, _, _, _, _⟩) rfl 365 (.tmp 6) (.tmp 25) rfl _ rfl y rfl H2.out (by rw [HA.out]; exact sz16) (by rw [HA.out]; rfl) ?_))
      refine bodyPost_ret (results_bts Tryz.results324 _ _ _ rfl (H2.out.row y) Tryz.underlying365 (by rw [HA.out]; exact sz16)) rfl ?_
      exact ⟨by rw [HYE.out], Below.row HB2.out (by omega) _⟩

/-- p rows are moved, and q of the next -/
def movL (F : Nat → Nat) (p q : Nat) : List Nat := (List.range 16).map fun i => if i % 4 < p ∨ i % 4 = p ∧ i / 4 < q then F i else 0
theorem movL_len (F : Nat → Nat) (p q : Nat) : (movL F p q).length = 16 := by simp [movL]
theorem movL_zero (F : Nat → Nat) : movL F 0 0 = z16 := rfl
theorem movL_step (F : Nat → Nat) (p q : Nat) (hp : p < 4) (hq : q < 4) : (movL F p q).set (4 * q + p) (F (4 * q + p)) = movL F p (q + 1) := by
  apply List.ext_getElem (by simp [movL])
  intro i h1 h2
  rw [List.getElem_set]
  simp only [movL, List.getElem_map, List.getElem_range]
  have hi : i < 16 := by rw [movL_len] at h2; exact h2
  by_cases h : 4 * q + p = i
  · rw [if_pos h, if_pos (by omega), h]
  · rw [if_neg h]
    have e : (i % 4 < p ∨ i % 4 = p ∧ i / 4 < q + 1) ↔ (i % 4 < p ∨ i % 4 = p ∧ i / 4 < q) := by omega
    simp only [e]
theorem movL_next (F : Nat → Nat) (p : Nat) : movL F p 4 = movL F (p + 1) 0 := by
  apply List.ext_getElem (by simp [movL])
  intro i h1 h2
  simp only [movL, List.getElem_map, List.getElem_range]
  have hi : i < 16 := by rw [movL_len] at h2; exact h2
  have e : (i % 4 < p ∨ i % 4 = p ∧ i / 4 < 4) ↔ (i % 4 < p + 1 ∨ i % 4 = p + 1 ∧ i / 4 < 0) := by omega
  simp only [e]
theorem movL_all (F : Nat → Nat) : movL F 4 0 = (List.range 16).map F := by
  unfold movL
  refine List.map_congr_left fun i hi => ?_
  have : i < 16 := by simpa using hi
  rw [if_pos (by omega)]
structure Mov (B : Nat) (w0 w : World) (s l : List Nat) (by' : Nat → Nat) : Prop where
  src : Bk w B 365 s
  mv : ∀ p, p < 4 → w.cell? ⟨B + 1, p, none⟩ = some (.int .i64 (by' p : Nat))
  res : Bk w (B + 1 + 1) 365 z16
  cur : Bk w (B + 1 + 1 + 1) 365 l
  below : Below B w0 w
theorem Mov.step {B : Nat} {w0 w : World} {s : List Nat} {F : Nat → Nat} {p q x : Nat} {by' : Nat → Nat} (h : Mov B w0 w s (movL F p q) by') (hp : p < 4) (hq : q < 4) (hx : x = F (4 * q + p)) :
    Mov B w0 (w.setCell ⟨B + 1 + 1 + 1, 4 * q + p, none⟩ (.int .u8 (x : Int))) s (movL F p (q + 1)) by' := by
  subst hx
  refine ⟨h.src.far (by omega) _, fun i hi => ?_, h.res.far (by omega) _, ?_, h.below.setCell (by show B ≤ B + 1 + 1 + 1; omega) _⟩
  · rw [World.cell?_setCell_far _ _ _ _ (by show B + 1 + 1 + 1 ≠ B + 1; omega)]
    exact h.mv i hi
  · have := h.cur.set (4 * q + p) (F (4 * q + p))
    rw [movL_step F p q hp hq] at this
    exact this

set_option maxRecDepth 100000 in
set_option maxHeartbeats 1000000 in
theorem moved_any (s : List Nat) (b0 b1 b2 b3 t : Nat) (by' : Nat → Nat) (hs : Byt s) (ls : s.length = 16) (e0 : by' 0 = b0) (e1 : by' 1 = b1) (e2 : by' 2 = b2) (e3 : by' 3 = b3) (hby : ∀ p, p < 4 → by' p < 4) (hF : ∀ p q, p < 4 → q < 4 → shiftF t s (4 * q + p) = at' s (4 * ((q + by' p) % 4) + p)) (w : World) :
    Calls Tryz.prog 326 #[.agg (bts s), .agg #[.int .i64 (b0 : Int), .int .i64 (b1 : Int), .int .i64 (b2 : Int), .int .i64 (b3 : Int)]] w fun e w' => e = .returned (.agg (bts (shiftK t s))) ∧ Below w.heap.size w w' := by
  have LS := Lib.hid ls
  have HF := Lib.hid hF
  have HBY := Lib.hid hby
  have hst : ∃ W, W = (((w.alloc (.cells (bts s) 365)).alloc (.cells #[.int .i64 (b0 : Int), .int .i64 (b1 : Int), .int .i64 (b2 : Int), .int .i64 (b3 : Int)] 431)).alloc (.cells (bts z16) 365)).alloc (.cells (bts z16) 365) ∧ Mov w.heap.size w W s z16 by' := by
    refine ⟨_, rfl, ((((Bk.newAt _ s rfl).alloc _).alloc _).alloc _), fun p hp => ?_, (Bk.newAt _ z16 (by simp)).alloc _, Bk.newAt _ z16 (by simp), ((((Below.refl _ _).alloc (Nat.le_refl _) _).alloc (by simp) _).alloc (by simp; omega) _).alloc (by simp; omega) _⟩
    have h1 : (((((w.alloc (.cells (bts s) 365)).alloc (.cells #[.int .i64 (b0 : Int), .int .i64 (b1 : Int), .int .i64 (b2 : Int), .int .i64 (b3 : Int)] 431)).alloc (.cells (bts z16) 365)).alloc (.cells (bts z16) 365)).heap[w.heap.size + 1]?) = some (.cells #[.int .i64 (b0 : Int), .int .i64 (b1 : Int), .int .i64 (b2 : Int), .int .i64 (b3 : Int)] 431 (0, 0)) := by
      rw [Below.heap_alloc _ _ _ (by simp), Below.heap_alloc _ _ _ (by simp)]
      have := heap_alloc_new (w.alloc (.cells (bts s) 365)) (.cells #[.int .i64 (b0 : Int), .int .i64 (b1 : Int), .int .i64 (b2 : Int), .int .i64 (b3 : Int)] 431)
      simpa using this
    rw [cell_of_row _ _ p _ _ (0, 0) h1]
    match p, hp with
    | 0, _ => rw [e0]; rfl
    | 1, _ => rw [e1]; rfl
    | 2, _ => rw [e2]; rfl
    | 3, _ => rw [e3]; rfl
  obtain ⟨W, hW, hst⟩ := hst
  have HST := Lib.hid hst
  have HW := Lib.hid hW
  clear ls hF hby hst hW e0 e1 e2 e3
  go_enter Tryz.func326, Tryz.ntmps326
  go_wp2_with fail
  go_loopw [6, 7] (fun v _ wr => ∃ p : Nat, p ≤ 4 ∧ v = .int .i64 p ∧ Mov w.heap.size w wr s (movL (shiftF t s) p 0) by') (fun v _ _ => 4 - (intOf v).toNat)
  case atStart => exact ⟨0, by omega, rfl, by have := HST.out; rw [HW.out] at this; exact this⟩
  case round =>
    obtain ⟨p, hp, rfl, ho⟩ := hrel
    clear HST HW
    by_cases hlt : p < 4
    · have hpi : (p : Int) < 4 := by omega
      have hpd : decide ((p : Int) < 4) = true := by simpa using hpi
      have HO := Lib.hid ho
      clear ho
      go_wp2_with fail
      go_loopw [7] (fun v wq => ∃ q : Nat, q ≤ 4 ∧ v = .int .i64 q ∧ Mov w.heap.size w wq s (movL (shiftF t s) p q) by') (fun v _ => 4 - (intOf v).toNat)
      case atStart => exact ⟨0, by omega, rfl, HO.out⟩
      case round =>
        obtain ⟨q, hq, rfl, hi⟩ := hrel
        clear HO
        by_cases hlq : q < 4
        · have hqi : (q : Int) < 4 := by omega
          have c0 := hi.mv p hlt
          have hm := HBY.out p hlt
          have hF := HF.out p q hlt hlq
          generalize by' p = m at c0 hm hF
          have hmi : (m : Int) < 4 := by omega
          have hmo : (((q : Int) + (m : Int))).tmod 4 = (((q + m) % 4 : Nat) : Int) := by rw [Int.tmod_eq_emod_of_nonneg (by omega)]; omega
          have hmo2 : (((q : Int) + (m : Int))) % 4 = (((q + m) % 4 : Nat) : Int) := by omega
          have hr4 : (q + m) % 4 < 4 := by omega
          generalize (q + m) % 4 = r at hmo hmo2 hr4 hF
          have hri : (r : Int) < 4 := by omega
          have c1 := hi.src.cell (k := 4 * r + p) (by rw [LS.out]; omega)
          have c2 := hi.cur.cell (k := 4 * q + p) (by rw [movL_len]; omega)
          have f2 := hi.cur.free (4 * q + p)
          have hF' : shiftF t s (4 * q + p) = s[4 * r + p]?.getD 0 := hF
          generalize s[4 * r + p]?.getD 0 = x at c1 hF'
          have hst := hi.step (x := x) hlt hlq hF'.symm
          have HS := Lib.hid hst
          clear hF hF' hst hi
          go_wp2
          go_roundw
          case rel => exact ⟨q + 1, by omega, by go_num, HS.out⟩
          case measure => simp [intOf]; omega
        · obtain rfl : q = 4 := by omega
          have hn := hi
          rw [movL_next] at hn
          have HN := Lib.hid hn
          clear hn hi
          go_wp2
          go_roundw
          case rel => exact ⟨p + 1, by omega, by go_num, HN.out⟩
          case measure => simp [intOf]; omega
    · obtain rfl : p = 4 := by omega
      rw [movL_all] at ho
      have ho2 : Mov w.heap.size w wr s (shiftK t s) by' := ho
      have hal : (shiftK t s).length = 16 := shiftK_len _ _
      clear ho
      generalize hye : shiftK t s = y at ho2 hal
      have HYE := Lib.hid hye
      clear hye
      have HO := Lib.hid ho2
      have HA := Lib.hid hal
      clear ho2 hal
      go_wp2_with (first
        | (refine wpList_loadB (o := ⟨some 32, _, _, _, _, _⟩) rfl 365 (.tmp 5) rfl _ rfl HO.out.cur Tryz.underlying365 (by rw [HA.out]; exact sz16) ?_)
        | (refine wpList_storeB (o := ⟨none, .store _ (.tmp 4) (.tmp 32), _, _, _, _⟩) rfl 365 (.tmp 4) (.tmp 32) rfl _ rfl y rfl HO.out.res (by rw [HA.out]; exact sz16) (by rw [HA.out]; rfl) ?_))
      refine bodyPost_ret (results_bts Tryz.results326 _ _ _ rfl (HO.out.res.row y) Tryz.underlying365 (by rw [HA.out]; exact sz16)) rfl ?_
      exact ⟨by rw [HYE.out], Below.row HO.out.below (by omega) _⟩
theorem moved1_any (s : List Nat) (hs : Byt s) (ls : s.length = 16) (w : World) :
    Calls Tryz.prog 326 #[.agg (bts s), .agg #[.int .i64 0, .int .i64 1, .int .i64 2, .int .i64 3]] w fun e w' => e = .returned (.agg (bts (shiftK 1 s))) ∧ Below w.heap.size w w' :=
  moved_any s 0 1 2 3 1 (fun p => p) hs ls rfl rfl rfl rfl (fun p h => h) (fun p q hp hq => by
    unfold shiftF at'
    rw [show (4 * q + p) / 4 = q from by omega, show (4 * q + p) % 4 = p from by omega, Nat.one_mul]) w
theorem moved3_any (s : List Nat) (hs : Byt s) (ls : s.length = 16) (w : World) :
    Calls Tryz.prog 326 #[.agg (bts s), .agg #[.int .i64 0, .int .i64 3, .int .i64 2, .int .i64 1]] w fun e w' => e = .returned (.agg (bts (shiftK 3 s))) ∧ Below w.heap.size w w' :=
  moved_any s 0 3 2 1 3 (fun p => 3 * p % 4) hs ls rfl rfl rfl rfl (fun p h => by show 3 * p % 4 < 4; omega) (fun p q hp hq => by
    unfold shiftF at'
    rw [show (4 * q + p) / 4 = q from by omega, show (4 * q + p) % 4 = p from by omega, show (q + 3 * p) % 4 = (q + 3 * p % 4) % 4 from by omega]) w

set_option maxRecDepth 100000 in
set_option maxHeartbeats 1000000 in
theorem column_any (s : List Nat) (q : Nat) (hs : Byt s) (ls : s.length = 16) (hq : q < 4) (w : World) :
    Calls Tryz.prog 328 #[.agg (bts s), .int .i64 (q : Int)] w fun e w' => e = .returned (.agg (bts (rowOf s q))) ∧ Below w.heap.size w w' := by
  have LS := Lib.hid ls
  have hqi : (q : Int) < 4 := by omega
  have hst : ∃ W, W = (w.alloc (.cells (bts s) 365)).alloc (.cells (bts [0, 0, 0, 0]) 432) ∧ Bk W w.heap.size 365 s ∧ Bk W (w.heap.size + 1) 432 [0, 0, 0, 0] ∧ Below w.heap.size w W :=
    ⟨_, rfl, (Bk.newAt _ s rfl).alloc _, Bk.newAt _ [0, 0, 0, 0] (by simp), ((Below.refl _ _).alloc (Nat.le_refl _) _).alloc (by simp) _⟩
  obtain ⟨W, hW, hs1, hs2, hb⟩ := hst
  have hr : rowOf s q = [at' s (4 * q), at' s (4 * q + 1), at' s (4 * q + 2), at' s (4 * q + 3)] := by
    apply List.ext_getElem (by simp [rowOf, ls]; omega)
    intro i h1 h2
    have hi : i < 4 := by simpa using h2
    simp only [rowOf, List.getElem_take, List.getElem_drop]
    match i, hi with
    | 0, _ => simp [at', List.getElem?_eq_getElem (show 4 * q < s.length by omega)]
    | 1, _ => simp [at', List.getElem?_eq_getElem (show 4 * q + 1 < s.length by omega)]
    | 2, _ => simp [at', List.getElem?_eq_getElem (show 4 * q + 2 < s.length by omega)]
    | 3, _ => simp [at', List.getElem?_eq_getElem (show 4 * q + 3 < s.length by omega)]
  have c0 := hs1.cell (k := 4 * q) (by omega)
  have c1 := hs1.cell (k := 4 * q + 1) (by omega)
  have c2 := hs1.cell (k := 4 * q + 2) (by omega)
  have c3 := hs1.cell (k := 4 * q + 3) (by omega)
  change W.cell? _ = some (.int .u8 ((at' s (4 * q) : Nat) : Int)) at c0
  change W.cell? _ = some (.int .u8 ((at' s (4 * q + 1) : Nat) : Int)) at c1
  change W.cell? _ = some (.int .u8 ((at' s (4 * q + 2) : Nat) : Int)) at c2
  change W.cell? _ = some (.int .u8 ((at' s (4 * q + 3) : Nat) : Int)) at c3
  rw [hr]
  clear hr ls
  generalize at' s (4 * q) = x0 at *
  generalize at' s (4 * q + 1) = x1 at *
  generalize at' s (4 * q + 2) = x2 at *
  generalize at' s (4 * q + 3) = x3 at *
  have hv0 : IntKind.i64.wrap (4 * (q : Int)) = 4 * (q : Int) := IntWalk.i64_in _ (by omega)
  have hv1 : IntKind.i64.wrap (4 * (q : Int) + 1) = 4 * (q : Int) + 1 := IntWalk.i64_in _ (by omega)
  have hv2 : IntKind.i64.wrap (4 * (q : Int) + 2) = 4 * (q : Int) + 2 := IntWalk.i64_in _ (by omega)
  have hv3 : IntKind.i64.wrap (4 * (q : Int) + 3) = 4 * (q : Int) + 3 := IntWalk.i64_in _ (by omega)
  have hw0 : (0 : Int) ≤ 4 * (q : Int) := by omega
  have hx0 : 4 * (q : Int) < 16 := by omega
  have hy0 : (4 * (q : Int)).toNat = 4 * q := by omega
  have hw1 : (0 : Int) ≤ 4 * (q : Int) + 1 := by omega
  have hx1 : 4 * (q : Int) + 1 < 16 := by omega
  have hy1 : (4 * (q : Int) + 1).toNat = 4 * q + 1 := by omega
  have hw2 : (0 : Int) ≤ 4 * (q : Int) + 2 := by omega
  have hx2 : 4 * (q : Int) + 2 < 16 := by omega
  have hy2 : (4 * (q : Int) + 2).toNat = 4 * q + 2 := by omega
  have hw3 : (0 : Int) ≤ 4 * (q : Int) + 3 := by omega
  have hx3 : 4 * (q : Int) + 3 < 16 := by omega
  have hy3 : (4 * (q : Int) + 3).toNat = 4 * q + 3 := by omega
  have HW := Lib.hid hW
  have H1 := Lib.hid hs1
  have H2 := Lib.hid hs2
  have HB := Lib.hid hb
  clear hW hs1 hs2 hb
  go_enter Tryz.func328, Tryz.ntmps328
  go_upto_region 1 with (fail)
  have e : (w.alloc (.cells (bts s) 365)).alloc (.cells #[.int .u8 0, .int .u8 0, .int .u8 0, .int .u8 0] 432) = W := HW.out.symm
  rw [e]
  clear e HW
  refine wp_still_tail 20 (by kernel_rfl) (by kernel_rfl) ?_
  simp only [List.take_succ_cons, List.take_zero, List.drop_succ_cons, List.drop_zero]
  repeat still_step
  refine wpStill_nil ?_
  clear hv0 hv1 hv2 hv3 hy0 hy1 hy2 hy3 c0 c1 c2 c3
  go_wp2_with (refine wpList_storeB (o := ⟨none, .store _ (.tmp 4) (.tmp 24), _, _, _, _⟩) rfl 432 (.tmp 4) (.tmp 24) rfl _ rfl [x0, x1, x2, x3] rfl H2.out.drew sz4 rfl ?_)
  refine bodyPost_ret (results_bts Tryz.results328 _ _ _ rfl (H2.out.drew.row [x0, x1, x2, x3]) Tryz.underlying432 sz4) rfl ?_
  exact ⟨rfl, Below.row HB.out.drew (by omega) _⟩
end Go.Proofs.YtakgebbeknfplaaGreat
