/-
  META PAGES: the walk of known.
  META PAGES: MetaEncodes, MetaDecodes, MetaOnly: the walks.
-/
import Derived.Test.YtmeakfocppooiaaGreatMtP
import Derived.Test.YtmeakfocppooiaaGreatWid6
namespace Go.Proofs.YtmeakfocppooiaaGreat
open Go.RowKit
set_option linter.unusedVariables false

set_option maxRecDepth 100000 in
set_option maxHeartbeats 4000000 in
theorem eq_mp (a b : Mp) (W : World) : (Op.equalIn 10000 31 (.agg #[.int .u64 (a.cm : Int), .int .u32 (a.pg : Int), .int .u64 (a.rc : Int), .int .u16 (a.rg : Int), .int .u8 (a.lv : Int), .int .u16 (a.gn : Int), .int .u32 (a.tn : Int)]) (.agg #[.int .u64 (b.cm : Int), .int .u32 (b.pg : Int), .int .u64 (b.rc : Int), .int .u16 (b.rg : Int), .int .u8 (b.lv : Int), .int .u16 (b.gn : Int), .int .u32 (b.tn : Int)])).run Tryz.prog W = .ok (decide (a = b)) W := by
  obtain ⟨a1, a2, a3, a4, a5, a6, a7⟩ := a
  obtain ⟨b1, b2, b3, b4, b5, b6, b7⟩ := b
  have hd : decide ((⟨a1, a2, a3, a4, a5, a6, a7⟩ : Mp) = ⟨b1, b2, b3, b4, b5, b6, b7⟩) = (decide (a1 = b1) && decide (a2 = b2) && decide (a3 = b3) && decide (a4 = b4) && decide (a5 = b5) && decide (a6 = b6) && decide (a7 = b7)) := by
    rw [← Bool.decide_and, ← Bool.decide_and, ← Bool.decide_and, ← Bool.decide_and, ← Bool.decide_and, ← Bool.decide_and, decide_eq_decide]
    simp [and_assoc]
  rw [hd]
  go_simp
  by_cases h1 : a1 = b1
  · by_cases h2 : a2 = b2
    · by_cases h3 : a3 = b3
      · by_cases h4 : a4 = b4
        · by_cases h5 : a5 = b5
          · by_cases h6 : a6 = b6
            · by_cases h7 : a7 = b7
              · simp [h1, h2, h3, h4, h5, h6, h7]
              · simp [h1, h2, h3, h4, h5, h6, h7]
                omega
            · simp [h1, h2, h3, h4, h5, h6]
              omega
          · simp [h1, h2, h3, h4, h5]
            omega
        · simp [h1, h2, h3, h4]
          omega
      · simp [h1, h2, h3]
        omega
    · simp [h1, h2]
      omega
  · simp [h1]
    omega
theorem mSealP_ok {l : RgL} {m : Mp} {k : List Nat} (hr : rightB m = true) (hk : getR (0, m.gn) l = some k) (hkk : KeyOk k) : (mSealP l m).2 = 0 ∧ (mSealP l m).1.length = 256 := by
  unfold mSealP
  rw [hr, cond_true, hk]
  simp only
  rw [sealM hkk m]
  exact ⟨rfl, by rw [List.length_append, headL_len, sealA_len, mbytes_len]⟩
/-- a fresh log -/
def NewG (w0 : World) (v : Value) (W : World) : Prop := ∃ g, v = .pointer (some ⟨g, 0, none⟩) ∧ CbB W g 122 #[.slice none 0 0] ∧ w0.heap.size ≤ g
theorem NewG.mono (w0 : World) : Mono (NewG w0) := fun v W W' ⟨g, h1, h2, h3⟩ hb => ⟨g, h1, h2.ab hb, h3⟩
def km : Mp := ⟨9, 5, 9, 2, 1, 3, 4⟩
theorem km_ok : km.Ok := ⟨by decide, by decide, by decide, by decide, by decide, by decide, by decide⟩
def kr : RgL := [((0, 3), zeros 16)]
theorem kr_get : getR (0, km.gn) kr = some (zeros 16) := by decide
theorem kr_add : addP (0, 3) (zeros 16) [] = (0, kr) := by decide
set_option maxRecDepth 100000 in
set_option maxHeartbeats 8000000 in
theorem known18_any (w : World) : Calls Tryz.prog 10 #[] w fun e w' => e = .returned (.bool true) ∧ Below w.heap.size w w' := by
  have hmk : ∀ W : World, (Instr.makeSlice 39 (.int .i64 16) (.int .i64 16)).run Tryz.prog W = .ok (.slice (some ⟨W.heap.size, 0, none⟩) 16 16) (W.alloc (.cells (bts (zeros 16)) 5)) := fun W => make_u8 16 16 (Nat.le_refl _) (by decide) W
  have HA := Lib.hid fun B g mm A c W h hi => ringAdd_any B g mm 0 3 16 c A (zeros 16) [] W h (by decide) (by decide) hi
  rw [kr_add] at HA
  have hok := mSealP_ok (l := kr) (m := km) (by decide) kr_get (.inl rfl)
  have HS := Lib.hid fun B g mm lg W h hl => mSeal_any B g mm lg kr km W h hl km_ok
  have h1 := mOpen_seal (l := kr) (m := km) km_ok (by decide) kr_get (.inl rfl) 1
  have h0 := mOpen_seal (l := kr) (m := km) km_ok (by decide) kr_get (.inl rfl) 0
  rw [if_pos (.inr rfl), if_pos (by decide)] at h1
  rw [if_pos (.inl rfl), if_neg (by decide)] at h0
  generalize mSealP kr km = X at *
  obtain ⟨R, er⟩ := X
  simp only at hok h1 h0 HS
  obtain ⟨rfl, hlen⟩ := hok
  have HO := Lib.hid fun sl B g mm A c W hr hi => mOpen_any B g mm sl kr A 256 c R W hr hi
  have H1 := Lib.hid h1
  have H0 := Lib.hid h0
  have HL := Lib.hid hlen
  have M0 : Hid (MpB (w.alloc (.cells (mpv km) 31)) w.heap.size km) := Lib.hid (MpB.new w km)
  have B0 : Hid (Below w.heap.size w (w.alloc (.cells (mpv km) 31))) := Lib.hid ((Below.refl _ _).alloc (Nat.le_refl _) _)
  have S0 : Hid ((w.alloc (.cells (mpv km) 31)).heap.size = w.heap.size + 1) := Lib.hid (by simp)
  have HV : Hid (mpv km = #[.int .u64 9, .int .u32 5, .int .u64 9, .int .u16 2, .int .u8 1, .int .u16 3, .int .u32 4]) := Lib.hid rfl
  rw [HV.out] at M0 B0 S0 HS
  generalize kr = rl at *
  clear hlen h0 h1
  go_enter Tryz.func10, Tryz.ntmps10
  go_wp2_with fail
  refine (newRing_any _).mono ?_
  rintro e w1 ⟨g, mm, rfl, hg, hr, hb⟩
  rw [S0.out] at hg hr
  have R1 := Lib.hid hr
  have M1 := Lib.hid (M0.out.ab hb)
  have B1 := Lib.hid (below_tr B0.out hb B0.out.size)
  have G1 := Lib.hid hg
  clear hr hb hg M0 B0 S0
  go_wp2_with fail
  have hI : IsB (w1.alloc (.cells (bts (zeros 16)) 5)) (some ⟨w1.heap.size, 0, none⟩) 16 16 (zeros 16) := isB_whole (Bk.newAt _ (zeros 16) rfl) (byt_zeros 16) (zeros_len 16) (by decide)
  have hba : Below w1.heap.size w1 (w1.alloc (.cells (bts (zeros 16)) 5)) := (Below.refl _ _).alloc (Nat.le_refl _) _
  refine (HA.out _ _ _ _ _ _ (R1.out.ab hba) hI).mono ?_
  rintro e w2 ⟨rfl, hr, hgr⟩
  have R2 := Lib.hid hr
  have M2 : Hid (MpB w2 w.heap.size km) := Lib.hid ((M1.out.ab hba).grown hgr (by have := R1.out.low; omega))
  have B2 : Hid (Below w.heap.size w w2) := Lib.hid (below_grown (below_tr B1.out hba B1.out.size) hgr (by have := R1.out.low; omega) (by have := (below_tr B1.out hba B1.out.size).size; exact this))
  clear hr hgr hI hba M1 B1
  go_wp2_with fail
  refine wp_wideA [⟨18, IsR (.pointer (some ⟨g, 0, none⟩)), [], false⟩, ⟨19, NewG w2, [], false⟩, ⟨20, IsR (.agg #[.int .u64 9, .int .u32 5, .int .u64 9, .int .u16 2, .int .u8 1, .int .u16 3, .int .u32 4]), [], false⟩] (by kernel_rfl) (by kernel_rfl) rfl rfl rfl ⟨?_, ?_, ?_, trivial⟩ ?_
  · refine ⟨rfl, IsR.mono _, fun a W hA hb hd => takes_plain rfl (yields_value _ ?_ rfl)⟩
    have h2 : a.tmps[2]?.getD undef = .pointer (some ⟨g, 0, none⟩) := (eval_get a 2).trans ((hA.eval (by simp)).trans rfl)
    go_simp
  · refine ⟨rfl, NewG.mono _, fun a W hA hb hd => takes_plain rfl ?_⟩
    refine yields_call 11 #[] (by go_simp) ((newLog_any W).mono ?_)
    rintro e W1 ⟨gl, rfl, hgl, hcl, hb1⟩
    exact ⟨_, rfl, ⟨gl, rfl, hcl, Nat.le_trans hb.size hgl⟩, hb1⟩
  · refine ⟨rfl, IsR.mono _, fun a W hA hb hd => takes_plain rfl (yields_value _ ?_ rfl)⟩
    have h1 : a.tmps[1]?.getD undef = .pointer (some ⟨w.heap.size, 0, none⟩) := (eval_get a 1).trans ((hA.eval (by simp)).trans rfl)
    obtain ⟨x0, x1, x2, x3, x4, x5, x6⟩ := (M2.out.ab hb).cells
    simp only [km] at x0 x1 x2 x3 x4 x5 x6
    go_simp
  intro vs3 w3 hR hF hb
  have e18 : vs3 18 = .pointer (some ⟨g, 0, none⟩) := hR 0 _ rfl
  have e20 : vs3 20 = .agg #[.int .u64 9, .int .u32 5, .int .u64 9, .int .u16 2, .int .u8 1, .int .u16 3, .int .u32 4] := hR 2 _ rfl
  obtain ⟨lg, e19, hcl, hlg⟩ : NewG w2 (vs3 19) w3 := hR 1 _ rfl
  simp only [List.map_cons, List.map_nil, List.foldl_cons, List.foldl_nil, List.length_cons, List.length_nil, Act.put, List.setIfInBounds_toArray, List.set_cons_zero, List.set_cons_succ, e18, e20, e19]
  have LG := Lib.hid hcl
  have HLG := Lib.hid hlg
  have RB3 := Lib.hid (R2.out.ab hb)
  have B23 := Lib.hid hb
  clear hR hF hb hcl hlg e18 e19 e20
  refine any_call (k := 3) (fn := 12) (args := #[.pointer (some ⟨g, 0, none⟩), .pointer (some ⟨lg, 0, none⟩), .agg #[.int .u64 9, .int .u32 5, .int .u64 9, .int .u16 2, .int .u8 1, .int .u16 3, .int .u32 4]]) (by kernel_rfl) rfl rfl rfl (by go_simp) ((HS.out _ _ _ _ _ RB3.out LG.out).mono ?_)
  rintro e w4 ⟨v, rfl, hv, hgr, _⟩
  have B24 : Hid (Below w2.heap.size w2 w4) := Lib.hid (below_grown B23.out hgr HLG.out B23.out.size)
  obtain ⟨A4, c4, rfl, _, _⟩ := hv.shape
  have hv2 := hv.isB rfl
  rw [HL.out] at hv2 ⊢
  have I4 := Lib.hid hv2
  have R4 := Lib.hid (R2.out.ab B24.out)
  have M4 := Lib.hid (M2.out.ab B24.out)
  have B4 := Lib.hid (below_tr B2.out B24.out B2.out.size)
  clear hv hv2 hgr LG HLG RB3 B23 B24 R2 M2 B2 R1 G1
  refine ⟨_, rfl, ?_⟩
  simp only [Act.put, List.setIfInBounds_toArray, List.set_cons_zero, List.set_cons_succ]
  refine any_quiet (k := 4) 8 (fun w' => w' = w4) (by decide) rfl (by kernel_rfl) rfl ?_
  simp only [List.take_succ_cons, List.take_zero, List.drop_succ_cons, List.drop_zero]
  refine quiet_value (v := ?qv0) (by rfl) ?qh0 ?qk0
  case qh0 => (intro w' hw'; go_simp; rfl)
  simp only [Act.put, List.setIfInBounds_toArray, List.set_cons_zero, List.set_cons_succ]
  refine quiet_value (v := ?qv1) (by rfl) ?qh1 ?qk1
  case qh1 => (intro w' hw'; go_simp; rfl)
  simp only [Act.put, List.setIfInBounds_toArray, List.set_cons_zero, List.set_cons_succ]
  refine quiet_value (v := ?qv2) (by rfl) ?qh2 ?qk2
  case qh2 => (intro w' hw'; go_simp; rfl)
  simp only [Act.put, List.setIfInBounds_toArray, List.set_cons_zero, List.set_cons_succ]
  refine quiet_value (v := ?qv3) (by rfl) ?qh3 ?qk3
  case qh3 => (intro w' hw'; go_simp; rfl)
  simp only [Act.put, List.setIfInBounds_toArray, List.set_cons_zero, List.set_cons_succ]
  refine wpQuiet_nil ?_
  rintro w5 rfl
  go_wp2_with fail
  refine (HO.out 1 _ _ _ _ _ _ R4.out I4.out).mono ?_
  rw [H1.out]
  rintro e w6 ⟨rfl, hb⟩
  have R6 := Lib.hid (R4.out.ab hb)
  have I6 := Lib.hid (I4.out.ab hb)
  have M6 := Lib.hid (M4.out.ab hb)
  have B6 := Lib.hid (below_tr B4.out hb B4.out.size)
  clear hb R4 I4 M4 B4
  have EV : Hid (opnV ⟨km, 0⟩ = .tuple #[.agg #[.int .u64 9, .int .u32 5, .int .u64 9, .int .u16 2, .int .u8 1, .int .u16 3, .int .u32 4], .int .i64 0]) := Lib.hid rfl
  have EW : Hid (opnV ⟨mp0, 100⟩ = .tuple #[.agg #[.int .u64 0, .int .u32 0, .int .u64 0, .int .u16 0, .int .u8 0, .int .u16 0, .int .u32 0], .int .i64 100]) := Lib.hid rfl
  rw [EV.out]
  go_wp2_with fail
  have hba : Below w6.heap.size w6 (w6.alloc (.cells #[.int .u64 9, .int .u32 5, .int .u64 9, .int .u16 2, .int .u8 1, .int .u16 3, .int .u32 4] 31)) := (Below.refl _ _).alloc (Nat.le_refl _) _
  have N0 : MpB (w6.alloc (.cells #[.int .u64 9, .int .u32 5, .int .u64 9, .int .u16 2, .int .u8 1, .int .u16 3, .int .u32 4] 31)) w6.heap.size km := MpB.new w6 km
  refine (HO.out 0 _ _ _ _ _ _ (R6.out.ab hba) (I6.out.ab hba)).mono ?_
  rw [H0.out]
  rintro e w7 ⟨rfl, hb⟩
  have M7 := Lib.hid ((M6.out.ab hba).ab hb)
  have N7 := Lib.hid (N0.ab hb)
  have B7 := Lib.hid (below_tr (below_tr B6.out hba B6.out.size) hb (below_tr B6.out hba B6.out.size).size)
  clear hb hba N0 R6 I6 M6 B6
  rw [EW.out]
  obtain ⟨x0, x1, x2, x3, x4, x5, x6⟩ := M7.out.cells
  obtain ⟨y0, y1, y2, y3, y4, y5, y6⟩ := N7.out.cells
  simp only [km] at x0 x1 x2 x3 x4 x5 x6 y0 y1 y2 y3 y4 y5 y6
  have z1 := N7.out.lt
  have z2 := M7.out.lt
  have hq := fun W => eq_mp km km W
  simp only [km, decide_true] at hq
  go_wp2_with fail
  go_ret
  exact ⟨rfl, B7.out.alloc B7.out.size _⟩
end Go.Proofs.YtmeakfocppooiaaGreat

namespace Go.Proofs.YtmeakfocppooiaaGreat
open Go.RowKit
set_option linter.unusedVariables false

theorem array7' {α : Type} {cs : Array α} (h : cs.size = 7) : ∃ c0 c1 c2 c3 c4 c5 c6, cs = #[c0, c1, c2, c3, c4, c5, c6] := by
  obtain ⟨l⟩ := cs
  match l, h with
  | [c0, c1, c2, c3, c4, c5, c6], _ => exact ⟨c0, c1, c2, c3, c4, c5, c6, rfl⟩
set_option maxRecDepth 100000 in
theorem open_meta {W : World} {r : Reach} {base : Nat} {v : Value} (hk : Value.okWide Tryz.prog W r base 31 v) : ∃ m : Mp, v = .agg (mpv m) ∧ m.Ok := by
  obtain ⟨cs, rfl, hs, hc⟩ := okWide_ints (ts := [23, 24, 23, 25, 5, 25, 24]) Tryz.underlying31 (by kernel_rfl) hk
  have h7 : Tryz.prog.cellsOf 31 = 7 := by kernel_rfl
  rw [h7] at hs
  obtain ⟨c0, c1, c2, c3, c4, c5, c6, rfl⟩ := array7' hs
  obtain ⟨z0, rfl, a0, b0⟩ := hc 0 _ .u64 rfl Tryz.underlying23 _ rfl
  obtain ⟨z1, rfl, a1, b1⟩ := hc 1 _ .u32 rfl Tryz.underlying24 _ rfl
  obtain ⟨z2, rfl, a2, b2⟩ := hc 2 _ .u64 rfl Tryz.underlying23 _ rfl
  obtain ⟨z3, rfl, a3, b3⟩ := hc 3 _ .u16 rfl Tryz.underlying25 _ rfl
  obtain ⟨z4, rfl, a4, b4⟩ := hc 4 _ .u8 rfl Tryz.underlying5 _ rfl
  obtain ⟨z5, rfl, a5, b5⟩ := hc 5 _ .u16 rfl Tryz.underlying25 _ rfl
  obtain ⟨z6, rfl, a6, b6⟩ := hc 6 _ .u32 rfl Tryz.underlying24 _ rfl
  have e8 : IntKind.u8.min = 0 ∧ IntKind.u8.max = 255 := ⟨rfl, rfl⟩
  have e16 : IntKind.u16.min = 0 ∧ IntKind.u16.max = 65535 := ⟨rfl, rfl⟩
  have e32 : IntKind.u32.min = 0 ∧ IntKind.u32.max = 4294967295 := ⟨rfl, rfl⟩
  have e64 : IntKind.u64.min = 0 ∧ IntKind.u64.max = 18446744073709551615 := ⟨rfl, rfl⟩
  obtain ⟨n0, rfl⟩ : ∃ n : Nat, z0 = (n : Int) := ⟨z0.toNat, by omega⟩
  obtain ⟨n1, rfl⟩ : ∃ n : Nat, z1 = (n : Int) := ⟨z1.toNat, by omega⟩
  obtain ⟨n2, rfl⟩ : ∃ n : Nat, z2 = (n : Int) := ⟨z2.toNat, by omega⟩
  obtain ⟨n3, rfl⟩ : ∃ n : Nat, z3 = (n : Int) := ⟨z3.toNat, by omega⟩
  obtain ⟨n4, rfl⟩ : ∃ n : Nat, z4 = (n : Int) := ⟨z4.toNat, by omega⟩
  obtain ⟨n5, rfl⟩ : ∃ n : Nat, z5 = (n : Int) := ⟨z5.toNat, by omega⟩
  obtain ⟨n6, rfl⟩ : ∃ n : Nat, z6 = (n : Int) := ⟨z6.toNat, by omega⟩
  exact ⟨⟨n0, n1, n2, n3, n4, n5, n6⟩, rfl, by show n0 < 18446744073709551616; omega, by show n1 < 4294967296; omega, by show n2 < 18446744073709551616; omega, by show n3 < 65536; omega, by show n4 < 256; omega, by show n5 < 65536; omega, by show n6 < 4294967296; omega⟩
theorem eq_mp0 (W : World) : (Op.equalIn 10000 31 (.agg #[.int .u64 0, .int .u32 0, .int .u64 0, .int .u16 0, .int .u8 0, .int .u16 0, .int .u32 0]) (.agg #[.int .u64 0, .int .u32 0, .int .u64 0, .int .u16 0, .int .u8 0, .int .u16 0, .int .u32 0])).run Tryz.prog W = .ok true W := by
  have := eq_mp mp0 mp0 W
  rw [decide_eq_true rfl] at this
  exact this
theorem mpv_lit (m : Mp) : mpv m = #[.int .u64 (m.cm : Int), .int .u32 (m.pg : Int), .int .u64 (m.rc : Int), .int .u16 (m.rg : Int), .int .u8 (m.lv : Int), .int .u16 (m.gn : Int), .int .u32 (m.tn : Int)] := rfl
end Go.Proofs.YtmeakfocppooiaaGreat
