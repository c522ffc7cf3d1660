/-
  META PAGES: MetaBack: the walk.
-/
import Derived.Test.YtgnooakjkpkgiaaMlA
namespace Go.Proofs.Ytgnooakjkpkgiaa
open Go.RowKit
set_option linter.unusedVariables false

set_option maxRecDepth 100000 in
set_option maxHeartbeats 4000000 in
theorem mback_bad (A : Option Addr) (n c : Nat) (key : List Nat) (m : Mp) (w : World) (hm : m.Ok) (hi : IsB w A n c key) (hk : ¬ KeyOk key) :
    Calls Try.prog 13 #[.slice A n c, .agg (mpv m)] w fun e w' => e = .returned (.bool true) ∧ Below w.heap.size w w' := by
  have HK := Lib.hid known18_any
  have HA := Lib.hid fun B g mm A c W h hi => ringAdd_any B g mm 0 m.gn n c A key [] W h (by decide) hm.gn hi
  have e1 : addP (0, m.gn) key [] = (2, []) := if_neg hk
  rw [e1] at HA
  have HI := Lib.hid hi
  have M0 := Lib.hid (MpB.new w m)
  have B0 : Hid (Below w.heap.size w (w.alloc (.cells (mpv m) 95))) := Lib.hid ((Below.refl _ _).alloc (Nat.le_refl _) _)
  simp only [mpv_lit] at M0 B0 ⊢
  clear hm hi hk e1
  go_enter Try.func13, Try.ntmps13
  go_wp2_with fail
  refine (newRing_any _).mono ?_
  rintro e w1 ⟨g, mm, rfl, hg, hr, hb⟩
  have R1 := Lib.hid hr
  have M1 := Lib.hid (M0.out.ab hb)
  have B1 := Lib.hid (below_tr B0.out hb B0.out.size)
  clear hr hb hg M0
  go_wp2_with fail
  refine (newLog_any _).mono ?_
  rintro e w2 ⟨lg, rfl, hlg, hl, hb⟩
  have R2 := Lib.hid (R1.out.ab hb)
  have M2 := Lib.hid (M1.out.ab hb)
  have B2 := Lib.hid (below_tr B1.out hb B1.out.size)
  have I2 := Lib.hid (HI.out.ab B2.out)
  obtain ⟨x0, x1, x2, x3, x4, x5, x6⟩ := M2.out.cells
  clear hb hlg hl R1 M1
  go_wp2_with fail
  refine (HA.out _ _ _ _ _ _ R2.out I2.out).mono ?_
  rintro e w3 ⟨rfl, hr, hgr⟩
  have B3 : Hid (Below w.heap.size w w3) := Lib.hid (below_grown B2.out hgr (Nat.le_trans B0.out.size R2.out.low) B2.out.size)
  clear hr hgr
  go_wp2_with fail
  refine (HK.out _).mono ?_
  rintro e w4 ⟨rfl, hb⟩
  have B4 := Lib.hid (below_tr B3.out hb B3.out.size)
  clear hb
  go_wp2_with fail
  go_ret
  exact ⟨rfl, B4.out⟩
theorem own_ne {w : World} {B lg : Nat} {T : TypeId} {cs : Array Value} {v : Value} {k : List Nat} (hT : T ≠ 5) (hl : CbB w lg T cs) (ho : OwB w B v k) : v.ownBlock ≠ some lg := by
  intro e
  rcases ho.own.2 with ⟨rfl, _⟩ | ⟨g, cap, cur, rfl, _, hh, _⟩
  · cases e
  · have : g = lg := by injection e
    subst this
    unfold CbB at hl
    rw [hl] at hh
    injection hh with hh
    injection hh with h1 h2
    exact hT h2
theorem field_ref (a b c d e f : Value) (W : World) : (Instr.field 46 (.agg #[a, b, c, d, e, f]) 3).run Try.prog W = .ok (.agg #[d, e, f]) W := by kernel_rfl
theorem field_page (d e f : Int) (W : World) : (Instr.field 44 (.agg #[.int .u32 d, .int .u64 e, .int .u16 f]) 0).run Try.prog W = .ok (.int .u32 d) W := by kernel_rfl
theorem getR_one (x : Nat × Nat) (k : List Nat) : getR x [(x, k)] = some k := by simp [getR]
set_option maxRecDepth 100000 in
set_option maxHeartbeats 8000000 in
theorem mback_ok (A : Option Addr) (n c : Nat) (key : List Nat) (m : Mp) (w : World) (hm : m.Ok) (hi : IsB w A n c key) (hk : KeyOk key) :
    Calls Try.prog 13 #[.slice A n c, .agg (mpv m)] w fun e w' => e = .returned (.bool true) ∧ Below w.heap.size w w' := by
  have HK := Lib.hid known18_any
  have HA := Lib.hid fun B g mm A c W h hi => ringAdd_any B g mm 0 m.gn n c A key [] W h (by decide) hm.gn hi
  have e1 : addP (0, m.gn) key [] = (0, [((0, m.gn), key)]) := if_pos hk
  rw [e1] at HA
  have HS := Lib.hid fun B g mm lg W h hl => mSeal_any B g mm lg [((0, m.gn), key)] m W h hl hm
  have HR := Lib.hid fun W => right_any m W
  have HI := Lib.hid hi
  have M0 := Lib.hid (MpB.new w m)
  have B0 : Hid (Below w.heap.size w (w.alloc (.cells (mpv m) 95))) := Lib.hid ((Below.refl _ _).alloc (Nat.le_refl _) _)
  simp only [mpv_lit] at M0 B0 HS HR ⊢
  cases hr : rightB m
  · have hs : mSealP [((0, m.gn), key)] m = ([], 2) := by unfold mSealP; rw [hr, cond_false]
    rw [hs] at HS
    simp only [rightE, hr, cond_false] at HR HS
    clear hm hi hk e1 hs
    go_enter Try.func13, Try.ntmps13
    go_wp2_with fail
    refine (newRing_any _).mono ?_
    rintro e w1 ⟨g, mm, rfl, hg, hr, hb⟩
    have R1 := Lib.hid hr
    have M1 := Lib.hid (M0.out.ab hb)
    have B1 := Lib.hid (below_tr B0.out hb B0.out.size)
    clear hr hb hg M0
    go_wp2_with fail
    refine (newLog_any _).mono ?_
    rintro e w2 ⟨lg, rfl, hlg, hl, hb⟩
    have R2 := Lib.hid (R1.out.ab hb)
    have M2 := Lib.hid (M1.out.ab hb)
    have B2 := Lib.hid (below_tr B1.out hb B1.out.size)
    have I2 := Lib.hid (HI.out.ab B2.out)
    have L2 := Lib.hid hl
    have NE : Hid (lg ≠ mm ∧ w.heap.size < lg) := Lib.hid (by have := R1.out.mlt; have := M1.out.lt; omega)
    obtain ⟨x0, x1, x2, x3, x4, x5, x6⟩ := M2.out.cells
    clear hb hlg hl R1 M1
    go_wp2_with fail
    refine (HA.out _ _ _ _ _ _ R2.out I2.out).mono ?_
    rintro e w3 ⟨rfl, hr, hgr⟩
    have hwm : w.heap.size < mm := by have := R2.out.low; simp at this; omega
    have B3 : Hid (Below w.heap.size w w3) := Lib.hid (below_grown B2.out hgr (by omega) B2.out.size)
    have R3 := Lib.hid hr
    have M3 := Lib.hid (M2.out.grown hgr (by omega))
    have L3 := Lib.hid (L2.out.grown hgr NE.out.1)
    clear hr hgr R2 M2 L2 I2 B2 x0 x1 x2 x3 x4 x5 x6
    obtain ⟨x0, x1, x2, x3, x4, x5, x6⟩ := M3.out.cells
    go_wp2_with fail
    refine (HS.out _ _ _ _ _ R3.out L3.out).mono ?_
    rintro e w4 ⟨v, rfl, hv, hgr, _⟩
    obtain ⟨A4, c4, rfl, _, _⟩ := hv.shape
    have M4 := Lib.hid (M3.out.grown hgr (by have := NE.out; omega))
    have B4 : Hid (Below w.heap.size w w4) := Lib.hid (below_grown B3.out hgr (by have := NE.out; omega) B3.out.size)
    clear hv hgr R3 M3 L3 B3 x0 x1 x2 x3 x4 x5 x6
    obtain ⟨x0, x1, x2, x3, x4, x5, x6⟩ := M4.out.cells
    go_wp2_with fail
    refine (HR.out _).mono ?_
    rintro e w5 ⟨rfl, hb⟩
    have B5 := Lib.hid (below_tr B4.out hb B4.out.size)
    clear hb
    go_wp2_with fail
    refine (HK.out _).mono ?_
    rintro e w6 ⟨rfl, hb⟩
    have B6 := Lib.hid (below_tr B5.out hb B5.out.size)
    clear hb
    go_wp2_with fail
    go_ret
    exact ⟨rfl, B6.out⟩
  · have hok := mSealP_ok (l := [((0, m.gn), key)]) (m := m) hr (getR_one _ _) hk
    have HL := Lib.hid fun W => labelOf_any m W
    have HE := Lib.hid fun W => encode_any m W hm
    have HDD := Lib.hid (decP_mbytes hm hr)
    have hO := fun s => mOpen_seal (l := [((0, m.gn), key)]) (m := m) hm hr (getR_one _ _) hk s
    have hb2 : m.cm % 2 = 0 ∨ m.cm % 2 = 1 := by omega
    have hO1 : mOpenP [((0, m.gn), key)] ((m.cm % 2 : Nat) : Int) (mSealP [((0, m.gn), key)] m).1 = ⟨m, 0⟩ := by rw [hO, if_pos (by omega), if_pos rfl]
    have hO2 : mOpenP [((0, m.gn), key)] (1 - ((m.cm % 2 : Nat) : Int)) (mSealP [((0, m.gn), key)] m).1 = ⟨mp0, 100⟩ := by rw [hO, if_pos (by omega), if_neg (by omega)]
    generalize mSealP [((0, m.gn), key)] m = X at *
    obtain ⟨R, er⟩ := X
    simp only at hok hO1 hO2 HS
    obtain ⟨rfl, hlen⟩ := hok
    have HO := Lib.hid fun sl B g mm A c W hr hi => mOpen_any B g mm sl [((0, m.gn), key)] A 256 c R W hr hi
    unfold encP at HE
    rw [hr, cond_true] at HE
    have HD := Lib.hid fun A n c W h => decode_any A n c (mbytes m) W h
    rw [HDD.out] at HD
    have O1 := Lib.hid hO1
    have O2 := Lib.hid hO2
    have LR := Lib.hid hlen
    have hq := Lib.hid fun W => eq_mp m m W
    have EV : Hid (opnV ⟨m, 0⟩ = .tuple #[.agg (mpv m), .int .i64 0]) := Lib.hid rfl
    have EW : Hid (opnV ⟨mp0, 100⟩ = .tuple #[.agg #[.int .u64 0, .int .u32 0, .int .u64 0, .int .u16 0, .int .u8 0, .int .u16 0, .int .u32 0], .int .i64 100]) := Lib.hid rfl
    have ML := Lib.hid (mbytes_len m)
    have hw1 : IntKind.i64.wrap ((m.cm : Int) % 2) = (m.cm : Int) % 2 := IntWalk.i64_in _ (by omega)
    have hw2 : IntKind.i64.wrap (1 - (m.cm : Int) % 2) = 1 - (m.cm : Int) % 2 := IntWalk.i64_in _ (by omega)
    rw [show (1 - ((m.cm % 2 : Nat) : Int)) = 1 - (m.cm : Int) % 2 by omega] at O2
    rw [show ((m.cm % 2 : Nat) : Int) = (m.cm : Int) % 2 by omega] at O1
    simp only [decV, mpv_lit, lab_cells, labM, decide_true] at HE HD HL hq EV
    generalize mbytes m = MB at *
    clear hm hi hk e1 hO hO1 hO2 hlen hb2 hr HDD
    go_enter Try.func13, Try.ntmps13
    go_wp2_with fail
    refine (newRing_any _).mono ?_
    rintro e w1 ⟨g, mm, rfl, hg, hr, hb⟩
    have R1 := Lib.hid hr
    have M1 := Lib.hid (M0.out.ab hb)
    have B1 := Lib.hid (below_tr B0.out hb B0.out.size)
    clear hr hb hg M0
    go_wp2_with fail
    refine (newLog_any _).mono ?_
    rintro e w2 ⟨lg, rfl, hlg, hl, hb⟩
    have R2 := Lib.hid (R1.out.ab hb)
    have M2 := Lib.hid (M1.out.ab hb)
    have B2 := Lib.hid (below_tr B1.out hb B1.out.size)
    have I2 := Lib.hid (HI.out.ab B2.out)
    have L2 := Lib.hid hl
    have NE : Hid (lg ≠ mm ∧ w.heap.size < lg ∧ g < lg) := Lib.hid (by have := R1.out.mlt; have := M1.out.lt; have := R1.out.lt; omega)
    obtain ⟨x0, x1, x2, x3, x4, x5, x6⟩ := M2.out.cells
    clear hb hlg hl R1 M1
    go_wp2_with fail
    refine (HA.out _ _ _ _ _ _ R2.out I2.out).mono ?_
    rintro e w3 ⟨rfl, hr, hgr⟩
    have hwm : w.heap.size < mm := by have := R2.out.low; simp at this; omega
    have B3 : Hid (Below w.heap.size w w3) := Lib.hid (below_grown B2.out hgr (by omega) B2.out.size)
    have R3 := Lib.hid hr
    have M3 := Lib.hid (M2.out.grown hgr (by omega))
    have L3 := Lib.hid (L2.out.grown hgr NE.out.1)
    clear hr hgr R2 M2 L2 I2 B2 x0 x1 x2 x3 x4 x5 x6
    obtain ⟨x0, x1, x2, x3, x4, x5, x6⟩ := M3.out.cells
    go_wp2_with fail
    refine (HS.out _ _ _ _ _ R3.out L3.out).mono ?_
    rintro e w4 ⟨v, rfl, hv, hgr, _⟩
    obtain ⟨A4, c4, rfl, _, _⟩ := hv.shape
    have hv2 := hv.isB rfl
    rw [LR.out] at hv2 ⊢
    have I4 := Lib.hid hv2
    have M4 := Lib.hid (M3.out.grown hgr (by have := NE.out; omega))
    have R4 := Lib.hid (R3.out.grown hgr (by have := NE.out; omega) (Ne.symm NE.out.1) (fun vs h => h.imp fun v k ho => ho.grown hgr (own_ne (by decide) L3.out ho)))
    have B4 : Hid (Below w.heap.size w w4) := Lib.hid (below_grown B3.out hgr (by have := NE.out; omega) B3.out.size)
    clear hv hv2 hgr R3 M3 L3 B3 x0 x1 x2 x3 x4 x5 x6
    obtain ⟨x0, x1, x2, x3, x4, x5, x6⟩ := M4.out.cells
    go_wp2_with fail
    refine (HL.out _).mono ?_
    rintro e w5 ⟨rfl, hb⟩
    have I5 := Lib.hid (I4.out.ab hb)
    have R5 := Lib.hid (R4.out.ab hb)
    have M5 := Lib.hid (M4.out.ab hb)
    have B5 := Lib.hid (below_tr B4.out hb B4.out.size)
    clear hb I4 R4 M4 B4 x0 x1 x2 x3 x4 x5 x6
    have hf1 := fun W => field_ref (.int .u32 0) (.int .u8 4) (.int .u8 0) (.int .u32 ((m.cm : Int) % 2)) (.int .u64 (m.cm : Int)) (.int .u16 (m.gn : Int)) W
    have hf2 := fun W => field_page ((m.cm : Int) % 2) (m.cm : Int) (m.gn : Int) W
    go_wp2_with fail
    clear hf1 hf2
    refine (HO.out _ _ _ _ _ _ _ R5.out I5.out).mono ?_
    rw [O1.out, EV.out]
    rintro e w6 ⟨rfl, hb⟩
    have I6 := Lib.hid (I5.out.ab hb)
    have R6 := Lib.hid (R5.out.ab hb)
    have M6 := Lib.hid (M5.out.ab hb)
    have B6 := Lib.hid (below_tr B5.out hb B5.out.size)
    clear hb I5 R5 M5 B5
    go_wp2_with fail
    have ha6 : Below w6.heap.size w6 (w6.alloc (.cells (mpv m) 95)) := (Below.refl _ _).alloc (Nat.le_refl _) _
    have N6 := MpB.new w6 m
    refine (HO.out _ _ _ _ _ _ _ (R6.out.ab ha6) (I6.out.ab ha6)).mono ?_
    rw [O2.out, EW.out]
    rintro e w7 ⟨rfl, hb⟩
    have M7 := Lib.hid ((M6.out.ab ha6).ab hb)
    have N7 := Lib.hid (N6.ab hb)
    have B7 := Lib.hid (below_tr (below_tr B6.out ha6 B6.out.size) hb (below_tr B6.out ha6 B6.out.size).size)
    clear hb ha6 N6 I6 R6 M6 B6
    have z7 := N7.out.lt
    have z7' := M7.out.lt
    obtain ⟨x0, x1, x2, x3, x4, x5, x6⟩ := M7.out.cells
    go_wp2_with fail
    have ha7 : Below w7.heap.size w7 (w7.alloc (.cells (mpv mp0) 95)) := (Below.refl _ _).alloc (Nat.le_refl _) _
    refine (HE.out _).mono ?_
    rintro e w8 ⟨v, rfl, hv, hb⟩
    obtain ⟨A8, c8, rfl, _, _⟩ := hv.shape
    have I8 := Lib.hid (hv.isB rfl)
    have M8 := Lib.hid ((M7.out.ab ha7).ab hb)
    have N8 := Lib.hid ((N7.out.ab ha7).ab hb)
    have B8 := Lib.hid (below_tr (below_tr B7.out ha7 B7.out.size) hb (below_tr B7.out ha7 B7.out.size).size)
    clear hb hv ha7 M7 N7 B7 x0 x1 x2 x3 x4 x5 x6 z7 z7'
    go_wp2_with fail
    refine (HD.out _ _ _ _ I8.out).mono ?_
    rintro e w9 ⟨rfl, hb⟩
    have M9 := Lib.hid (M8.out.ab hb)
    have N9 := Lib.hid (N8.out.ab hb)
    have B9 := Lib.hid (below_tr B8.out hb B8.out.size)
    clear hb I8 M8 N8 B8
    have z9 := N9.out.lt
    have z9' := M9.out.lt
    obtain ⟨x0, x1, x2, x3, x4, x5, x6⟩ := M9.out.cells
    obtain ⟨y0, y1, y2, y3, y4, y5, y6⟩ := N9.out.cells
    have hq2 := hq.out
    go_wp2_with fail
    clear hq2
    refine (HK.out _).mono ?_
    rintro e w10 ⟨rfl, hb⟩
    have B10 := Lib.hid (below_tr (B9.out.alloc B9.out.size _) hb (B9.out.alloc B9.out.size _).size)
    clear hb
    go_wp2_with fail
    go_ret
    exact ⟨rfl, B10.out⟩
set_option maxRecDepth 100000 in
theorem mback_walk (A : Option Addr) (n c : Nat) (z : List Int) (v : Value) (w : World) (h : IsRow .u8 w A n c z) (_ : c * 1 ≤ 140737488351232) (hk : ∃ base, Value.okWide Try.prog w .any base 95 v) {H : Type} {enc : TypeId × Value → H} {d : DataW H} {p : List MemPlace} (_ : DataW.Trod enc Try.prog w 0 (fun _ => true) true 95 v d p) (_ : ∀ x ∈ p, x.block < w.heap.size) :
    Calls Try.prog 13 #[.slice A n c, v] w fun e w' => e = .returned (.bool true) ∧ Below w.heap.size w w' := by
  obtain ⟨base, hk⟩ := hk
  obtain ⟨m, rfl, hm⟩ := open_meta hk
  obtain ⟨l, rfl, bl⟩ := byt_of_row h
  by_cases hko : KeyOk l
  · exact mback_ok A n c l m w hm ⟨h, bl⟩ hko
  · exact mback_bad A n c l m w hm ⟨h, bl⟩ hko
end Go.Proofs.Ytgnooakjkpkgiaa
