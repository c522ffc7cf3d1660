/-
  IDEAL: calls that come in, opened; Tame and TenantOf.
-/
import Derived.Test.YtnnjmelibmiimaaGreatBdx
namespace Go.Proofs.YtnnjmelibmiimaaGreat
open Go.RowKit Go.ChangeShapes Go.WideShapes
set_option linter.unusedVariables false
set_option linter.unusedSimpArgs false

section
variable {H : Type} {enc : TypeId × Value → H} {W : World}
/-- a call as it lies in a list -/
def CallQ (W : World) (a : Addr) (c : CallP) : Prop := (∀ (i : Nat) (v : Value), c.cs[i]? = some v → W.cell? (a.add i) = some v) ∧ c.B W
set_option maxRecDepth 100000 in
theorem call_trod (n : Nat) (a : Addr) (cs' : List Value) (y : DataW H × List MemPlace) (h3 : cs'.length = 14) (h4 : ∀ i, i < 14 → W.cell? (a.add i) = cs'[i]?) (h : DataW.trod enc Tryz.prog W 0 (fun _ => true) true n 36 cs' = some y) (hlt : ∀ q ∈ y.2, q.block < W.heap.size) : ∃ q : CallP, CallQ W a q := by
  obtain ⟨xs, m, _, hx, hl, hlen, hf⟩ := DataW.trod_struct Tryz.underlying36 h
  have cI : Tryz.prog.cellsOf 30 = 1 := by kernel_rfl
  have c32 : Tryz.prog.cellsOf 22 = 1 := by kernel_rfl
  have cb : Tryz.prog.cellsOf 31 = 1 := by kernel_rfl
  have ci : Tryz.prog.cellsOf 3 = 1 := by kernel_rfl
  have c64 : Tryz.prog.cellsOf 32 = 1 := by kernel_rfl
  have cr : Tryz.prog.cellsOf 33 = 1 := by kernel_rfl
  have co : Tryz.prog.cellsOf 34 = 1 := by kernel_rfl
  have cl : Tryz.prog.cellsOf 4 = 1 := by kernel_rfl
  have c8 : Tryz.prog.cellsOf 5 = 1 := by kernel_rfl
  have hxl : ∀ (i : Nat) (z : DataW H × List MemPlace), xs[i]? = some z → ∀ q ∈ z.2, q.block < W.heap.size := fun i z hz q hq => hlt q (by
    rw [hx]
    exact List.mem_flatMap.2 ⟨z, List.mem_of_getElem? hz, hq⟩)
  match xs, hlen with
  | [x0, x1, x2, x3, x4, x5, x6, x7, x8, x9, x10, x11, x12, x13], _ =>
  obtain ⟨v0, v1, v2, v3, v4, v5, v6, v7, v8, v9, v10, v11, v12, v13, rfl⟩ : ∃ v0 v1 v2 v3 v4 v5 v6 v7 v8 v9 v10 v11 v12 v13, cs' = [v0, v1, v2, v3, v4, v5, v6, v7, v8, v9, v10, v11, v12, v13] := by
    match cs', h3 with
    | [a0, a1, a2, a3, a4, a5, a6, a7, a8, a9, a10, a11, a12, a13], _ => exact ⟨_, _, _, _, _, _, _, _, _, _, _, _, _, _, rfl⟩
  have f0 := hf 0 { name := "Kind", type := 30, offset := 0, embedded := false, tag := "", pkgPath := "", byteOffset := 0 } rfl
  have f1 := hf 1 { name := "Tenant", type := 22, offset := 1, embedded := false, tag := "", pkgPath := "", byteOffset := 8 } rfl
  have f2 := hf 2 { name := "Secret", type := 31, offset := 2, embedded := false, tag := "", pkgPath := "", byteOffset := 16 } rfl
  have f3 := hf 3 { name := "Quota", type := 3, offset := 3, embedded := false, tag := "", pkgPath := "", byteOffset := 40 } rfl
  have f4 := hf 4 { name := "N", type := 3, offset := 4, embedded := false, tag := "", pkgPath := "", byteOffset := 48 } rfl
  have f5 := hf 5 { name := "Handle", type := 32, offset := 5, embedded := false, tag := "", pkgPath := "", byteOffset := 56 } rfl
  have f6 := hf 6 { name := "Other", type := 32, offset := 6, embedded := false, tag := "", pkgPath := "", byteOffset := 64 } rfl
  have f7 := hf 7 { name := "Snap", type := 32, offset := 7, embedded := false, tag := "", pkgPath := "", byteOffset := 72 } rfl
  have f8 := hf 8 { name := "Rights", type := 33, offset := 8, embedded := false, tag := "", pkgPath := "", byteOffset := 80 } rfl
  have f9 := hf 9 { name := "Ops", type := 34, offset := 9, embedded := false, tag := "", pkgPath := "", byteOffset := 88 } rfl
  have f10 := hf 10 { name := "Key", type := 31, offset := 10, embedded := false, tag := "", pkgPath := "", byteOffset := 112 } rfl
  have f11 := hf 11 { name := "From", type := 31, offset := 11, embedded := false, tag := "", pkgPath := "", byteOffset := 136 } rfl
  have f12 := hf 12 { name := "To", type := 31, offset := 12, embedded := false, tag := "", pkgPath := "", byteOffset := 160 } rfl
  have f13 := hf 13 { name := "Back", type := 4, offset := 13, embedded := false, tag := "", pkgPath := "", byteOffset := 184 } rfl
  simp only [cI, c32, cb, ci, c64, cr, co, cl] at f0 f1 f2 f3 f4 f5 f6 f7 f8 f9 f10 f11 f12 f13
  obtain ⟨z0, e0, w0⟩ := int_trodX (k := .i64) Tryz.underlying30 f0
  obtain ⟨z1, e1, w1⟩ := int_trodX (k := .u32) Tryz.underlying22 f1
  obtain ⟨A2, n2, k2, l2, e2, i2⟩ := isB_trod Tryz.underlying31 Tryz.underlying5 c8 f2 (hxl 2 _ rfl)
  obtain ⟨z3, e3, w3⟩ := int_trodX (k := .i64) Tryz.underlying3 f3
  obtain ⟨z4, e4, w4⟩ := int_trodX (k := .i64) Tryz.underlying3 f4
  obtain ⟨z5, e5, w5⟩ := int_trodX (k := .u64) Tryz.underlying32 f5
  obtain ⟨z6, e6, w6⟩ := int_trodX (k := .u64) Tryz.underlying32 f6
  obtain ⟨z7, e7, w7⟩ := int_trodX (k := .u64) Tryz.underlying32 f7
  obtain ⟨z8, e8, w8⟩ := int_trodX (k := .u8) Tryz.underlying33 f8
  obtain ⟨A9, n9, k9, l9, e9, i9⟩ := ops_trod f9 (hxl 9 _ rfl)
  obtain ⟨A10, n10, k10, l10, e10, i10⟩ := isB_trod Tryz.underlying31 Tryz.underlying5 c8 f10 (hxl 10 _ rfl)
  obtain ⟨A11, n11, k11, l11, e11, i11⟩ := isB_trod Tryz.underlying31 Tryz.underlying5 c8 f11 (hxl 11 _ rfl)
  obtain ⟨A12, n12, k12, l12, e12, i12⟩ := isB_trod Tryz.underlying31 Tryz.underlying5 c8 f12 (hxl 12 _ rfl)
  obtain ⟨b, e13⟩ := bool_trodX Tryz.underlying4 f13
  simp only [List.drop_succ_cons, List.drop_zero, List.take_succ_cons, List.take_zero, List.cons.injEq, and_true] at e0 e1 e2 e3 e4 e5 e6 e7 e8 e9 e10 e11 e12 e13
  subst e0 e1 e2 e3 e4 e5 e6 e7 e8 e9 e10 e11 e12 e13
  obtain ⟨t, rfl, ht⟩ := nat_intX (m := 4294967296) w1 rfl (by decide)
  obtain ⟨hd, rfl, hhd⟩ := nat_intX (m := 18446744073709551616) w5 rfl (by decide)
  obtain ⟨ot, rfl, hot⟩ := nat_intX (m := 18446744073709551616) w6 rfl (by decide)
  obtain ⟨sn, rfl, hsn⟩ := nat_intX (m := 18446744073709551616) w7 rfl (by decide)
  obtain ⟨rt, rfl, hrt⟩ := nat_intX (m := 256) w8 rfl (by decide)
  refine ⟨⟨z0, t, ⟨A2, n2, k2, l2⟩, z3, z4, hd, ot, sn, rt, A9, n9, k9, l9, ⟨A10, n10, k10, l10⟩, ⟨A11, n11, k11, l11⟩, ⟨A12, n12, k12, l12⟩, b⟩, fun i v hv => ?_, ⟨⟨w0, ht, hhd, hot, hsn, hrt⟩, i2, i10, i11, i12, i9⟩⟩
  have hi : i < 14 := (Array.getElem?_eq_some_iff.1 hv).1
  rw [h4 i hi, ← hv]
  simp only [CallP.cs]
  rw [List.getElem?_toArray]
/-- calls as they come in -/
structure CallsB (w : World) (A : Option Addr) (n c : Nat) (l : List CallP) : Prop where
  len : l.length = n
  le : n ≤ c
  max : c ≤ maxLen
  cel : ∀ (i : Nat) (q : CallP), l[i]? = some q → ∃ x, A = some x ∧ x.block < w.heap.size ∧ CallQ w (x.add (i * 14)) q
set_option maxRecDepth 100000 in
theorem open_calls {base : Nat} {v : Value} {d : DataW H} {p : List MemPlace} (hk : Value.okWide Tryz.prog W .any base 23 v)
    (h : DataW.Trod enc Tryz.prog W 0 (fun _ => true) true 23 v d p) (hlt : ∀ x ∈ p, x.block < W.heap.size) : ∃ A n c l, v = .slice A n c ∧ CallsB W A n c l := by
  obtain ⟨A, n, c, rfl⟩ := okWide_slice Tryz.underlying23 hk
  obtain ⟨fuel, hf⟩ := h
  obtain ⟨A', n', c', l, e, h1, h2, h3, h4⟩ := sl_trod (CallQ W) Tryz.underlying23 14 (by kernel_rfl) (by decide) hf hlt (fun n a cs' y g1 g2 g3 g4 => call_trod n a cs' y g1 g2 g3 g4)
  simp [Value.cells] at e
  obtain ⟨rfl, rfl, rfl⟩ := e
  exact ⟨A, n, c, l, rfl, h1, h2, h3, fun i b hb => h4 i b hb⟩
end
theorem CallQ.ab {w w' : World} {a : Addr} {c : CallP} (h : CallQ w a c) (hb : Below w.heap.size w w') (ha : a.block < w.heap.size) : CallQ w' a c :=
  ⟨fun i v hv => (World.cell?_of_block (hb.block _ (by rw [add_block]; exact ha))).trans (h.1 i v hv), h.2.ab hb⟩
theorem CallsB.ab {w w' : World} {A : Option Addr} {n c : Nat} {l : List CallP} (h : CallsB w A n c l) (hb : Below w.heap.size w w') : CallsB w' A n c l := ⟨h.len, h.le, h.max, fun i q hi => by
  obtain ⟨x, h1, h2, h3⟩ := h.cel i q hi
  exact ⟨x, h1, Nat.lt_of_lt_of_le h2 hb.size, h3.ab hb (by rw [add_block]; exact h2)⟩⟩
def RetB (e : Ending) : Prop := ∃ b, e = .returned (.bool b)
set_option maxRecDepth 100000 in
set_option maxHeartbeats 2000000 in
theorem tame_any (c : CallP) (w : World) (hb : c.B w) : Calls Tryz.prog 9 #[.agg c.cs] w fun e w' => RetB e ∧ Below w.heap.size w w' := by
  have B0 : Hid (Below w.heap.size w (w.alloc (.cells c.cs 36))) := Lib.hid ((Below.refl _ _).alloc (Nat.le_refl _) _)
  have HO := Lib.hid (hb.ops.ab B0.out)
  have hcell : ∀ (k : Nat) (v : Value), c.cs[k]? = some v → (w.alloc (.cells c.cs 36)).cell? ⟨w.heap.size, k, none⟩ = some v := fun k v hv => (CbB.new w 36 c.cs).cell hv
  have k2 : (w.alloc (.cells c.cs 36)).cell? ⟨w.heap.size, 2, none⟩ = some (.slice c.sec.A c.sec.n c.sec.c) := hcell 2 _ rfl
  have k9 : (w.alloc (.cells c.cs 36)).cell? ⟨w.heap.size, 9, none⟩ = some (.slice c.oA c.oN c.oC) := hcell 9 _ rfl
  have k10 : (w.alloc (.cells c.cs 36)).cell? ⟨w.heap.size, 10, none⟩ = some (.slice c.key.A c.key.n c.key.c) := hcell 10 _ rfl
  have k11 : (w.alloc (.cells c.cs 36)).cell? ⟨w.heap.size, 11, none⟩ = some (.slice c.frm.A c.frm.n c.frm.c) := hcell 11 _ rfl
  have k12 : (w.alloc (.cells c.cs 36)).cell? ⟨w.heap.size, 12, none⟩ = some (.slice c.upto.A c.upto.n c.upto.c) := hcell 12 _ rfl
  clear hb hcell
  go_enter Tryz.func9, Tryz.ntmps9
  have CEL := Lib.hid HO.out.cel
  have NL := Lib.hid HO.out.len
  have NM := Lib.hid (show c.oN ≤ maxLen by have := HO.out.cap; have := HO.out.max; omega)
  go_upto_region 2 with (fail)
  obtain ⟨V, hV⟩ : ∃ V, w.alloc (.cells c.cs 36) = V := ⟨_, rfl⟩
  rw [hV] at B0 HO CEL k2 k9 k10 k11 k12 ⊢
  clear hV
  go_wp2_with fail
  go_loopw [3, 4] (fun y z wr => ∃ i : Nat, i ≤ c.oN ∧ (∃ u, y = .int .i64 u) ∧ z = .int .i64 (i : Int) ∧ ∃ q, wr = V.drewN q) (fun y z _ => c.oN - (intOf z).toNat)
  case atStart => exact ⟨0, Nat.zero_le _, ⟨_, rfl⟩, rfl, 0, rfl⟩
  case round =>
    obtain ⟨i, hi, ⟨u, rfl⟩, rfl, q0, rfl⟩ := hrel
    by_cases hlt : i < c.oN
    · by_cases h2 : i < 200
      · obtain ⟨o, ho⟩ : ∃ o, c.ops[i]? = some o := ⟨_, List.getElem?_eq_getElem (by rw [NL.out]; exact hlt)⟩
        obtain ⟨x, hx, hxl, o1, o2, o3, o4, o5⟩ := CEL.out i o ho
        rw [hx] at k9 ⊢
        have hlti : (i : Int) < (c.oN : Int) := by omega
        have hi0 : (0 : Int) ≤ (i : Int) := by omega
        have hi2 : (i : Int) < 200 := by omega
        have KL := Lib.hid hlt
        clear o3 o4 o5 ho hi hlt h2
        go_wp2_with fail
        go_quiet (fail)
        go_wp2_with fail
        go_roundw
        case rel => exact ⟨i + 1, KL.out, ⟨_, rfl⟩, by go_num, _, rfl⟩
        case measure => simp [intOf]; have := KL.out; omega
      · have hi2 : ¬ (i : Int) < 200 := by omega
        clear hi hlt h2
        go_wp2_with fail
        all_goals go_ret
        all_goals exact ⟨⟨_, rfl⟩, bel_drewN B0.out _⟩
    · obtain rfl : i = c.oN := by omega
      clear hi hlt
      go_wp2_with fail
      go_ret
      exact ⟨⟨_, rfl⟩, bel_drewN B0.out _⟩
set_option maxRecDepth 100000 in
set_option maxHeartbeats 4000000 in
theorem tenOf_any (c : CallP) (w : World) (hb : c.Ok) : Calls Tryz.prog 11 #[.agg c.cs] w fun e w' => e = .returned (.int .u32 (tenOf c : Int)) ∧ Below w.heap.size w w' := by
  have B0 : Hid (Below w.heap.size w (w.alloc (.cells c.cs 36))) := Lib.hid ((Below.refl _ _).alloc (Nat.le_refl _) _)
  have hcell : ∀ (k : Nat) (v : Value), c.cs[k]? = some v → (w.alloc (.cells c.cs 36)).cell? ⟨w.heap.size, k, none⟩ = some v := fun k v hv => (CbB.new w 36 c.cs).cell hv
  have k0 : (w.alloc (.cells c.cs 36)).cell? ⟨w.heap.size, 0, none⟩ = some (.int .i64 c.kind) := hcell 0 _ rfl
  have k1 : (w.alloc (.cells c.cs 36)).cell? ⟨w.heap.size, 1, none⟩ = some (.int .u32 (c.ten : Int)) := hcell 1 _ rfl
  have k5 : (w.alloc (.cells c.cs 36)).cell? ⟨w.heap.size, 5, none⟩ = some (.int .u64 (c.hd : Int)) := hcell 5 _ rfl
  have HH := Lib.hid hb.hd
  clear hb hcell
  go_enter Tryz.func11, Tryz.ntmps11
  by_cases e1 : c.kind = 1
  · have T : tenOf c = c.ten := by unfold tenOf; rw [if_pos (by omega)]
    rw [e1] at k0
    rw [T]
    clear T e1
    go_wp2_with fail
    go_ret
    exact ⟨rfl, B0.out⟩
  by_cases e2 : c.kind = 2
  · have T : tenOf c = c.ten := by unfold tenOf; rw [if_pos (by omega)]
    rw [e2] at k0
    rw [T]
    clear T e2
    go_wp2_with fail
    go_ret
    exact ⟨rfl, B0.out⟩
  by_cases e3 : c.kind = 3
  · have T : tenOf c = c.ten := by unfold tenOf; rw [if_pos (by omega)]
    rw [e3] at k0
    rw [T]
    clear T e3
    go_wp2_with fail
    go_ret
    exact ⟨rfl, B0.out⟩
  by_cases e4 : c.kind = 4
  · have T : tenOf c = c.ten := by unfold tenOf; rw [if_pos (by omega)]
    rw [e4] at k0
    rw [T]
    clear T e4
    go_wp2_with fail
    go_ret
    exact ⟨rfl, B0.out⟩
  by_cases e5 : c.kind = 5
  · have T : tenOf c = c.ten := by unfold tenOf; rw [if_pos (by omega)]
    rw [e5] at k0
    rw [T]
    clear T e5
    go_wp2_with fail
    go_ret
    exact ⟨rfl, B0.out⟩
  by_cases e8 : c.kind = 8
  · have T : tenOf c = c.ten := by unfold tenOf; rw [if_pos (by omega)]
    rw [e8] at k0
    rw [T]
    clear T e8
    go_wp2_with fail
    go_ret
    exact ⟨rfl, B0.out⟩
  by_cases e6 : c.kind = 6
  · have T : tenOf c = 0 := by unfold tenOf; rw [if_neg (by omega), if_pos (by omega)]
    rw [e6] at k0
    rw [T]
    clear T e6
    go_wp2_with fail
    go_ret
    exact ⟨rfl, B0.out⟩
  by_cases e7 : c.kind = 7
  · have T : tenOf c = 0 := by unfold tenOf; rw [if_neg (by omega), if_pos (by omega)]
    rw [e7] at k0
    rw [T]
    clear T e7
    go_wp2_with fail
    go_ret
    exact ⟨rfl, B0.out⟩
  have T : tenOf c = c.hd / 4294967296 := by unfold tenOf; rw [if_neg (by omega), if_neg (by omega)]
  rw [T]
  clear T
  obtain ⟨kd, hkd⟩ : ∃ kd, c.kind = kd := ⟨_, rfl⟩
  rw [hkd] at k0 e1 e2 e3 e4 e5 e8 e6 e7
  clear hkd
  go_upto_region 9 with (fail)
  go_upto_region 12 with (fail)
  clear e1 e2 e3 e4 e5 e8 e6 e7
  obtain ⟨q, hq⟩ : ∃ q, c.hd / 4294967296 = q := ⟨_, rfl⟩
  have hdv : (c.hd : Int) / 4294967296 = (q : Int) := by omega
  have hd0 : (0 : Int) ≤ (q : Int) := by omega
  have hd1 : (q : Int) < 4294967296 := by have := HH.out; omega
  have HQ := Lib.hid hq
  clear hq HH
  go_wp2_with fail
  go_ret
  exact ⟨by rw [HQ.out]; rfl, B0.out⟩
end Go.Proofs.YtnnjmelibmiimaaGreat
