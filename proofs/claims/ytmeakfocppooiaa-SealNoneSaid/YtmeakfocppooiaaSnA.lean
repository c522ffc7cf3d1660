/-
  SealNone: the walk.
-/
import Derived.Test.YtmeakfocppooiaaSlA
import Derived.Test.YtmeakfocppooiaaSeJ
namespace Go.Proofs.Ytmeakfocppooiaa
open Go.RowKit Go.ChangeShapes Go.WideShapes
set_option linter.unusedVariables false

theorem array4a {α : Type} {cs : Array α} (h : cs.size = 4) : ∃ c0 c1 c2 c3, cs = #[c0, c1, c2, c3] := by
  obtain ⟨l⟩ := cs
  match l, h with
  | [c0, c1, c2, c3], _ => exact ⟨c0, c1, c2, c3, rfl⟩
set_option maxRecDepth 100000 in
theorem open_sop {H : Type} {enc : TypeId × Value → H} {W : World} {base : Nat} {v : Value} {d : DataW H} {p : List MemPlace} (hk : Value.okWide Try.prog W .any base 112 v)
    (h : DataW.Trod enc Try.prog W 0 (fun _ => true) true 112 v d p) (hlt : ∀ x ∈ p, x.block < W.heap.size) :
    ∃ (z : Int) (t g : Nat) (A : Option Addr) (n c : Nat) (k : List Nat), v = .agg #[.int .i64 z, .int .u32 (t : Int), .int .u16 (g : Int), .slice A n c] ∧ t < 4294967296 ∧ g < 65536 ∧ IsB W A n c k := by
  obtain ⟨cs, rfl, hs⟩ := okWide_struct Try.underlying112 hk
  have hc4 : Try.prog.cellsOf 112 = 4 := by kernel_rfl
  rw [hc4] at hs
  obtain ⟨c0, c1, c2, c3, rfl⟩ := array4a hs
  obtain ⟨fuel, hf⟩ := h
  obtain ⟨y0, y1, y2, y3, n, hx, -, h0, h1, h2, h3⟩ := trod_struct4 Try.underlying112 hf
  have cb : Try.prog.cellsOf 28 = 1 := by kernel_rfl
  have ci : Try.prog.cellsOf 3 = 1 := by kernel_rfl
  have cu : Try.prog.cellsOf 29 = 1 := by kernel_rfl
  have ch : Try.prog.cellsOf 31 = 1 := by kernel_rfl
  have c8 : Try.prog.cellsOf 5 = 1 := by kernel_rfl
  have hp : p = y0.2 ++ (y1.2 ++ (y2.2 ++ y3.2)) := by simpa using congrArg (·.2) hx
  simp only [Value.cells, cb, ci, cu, ch] at h0 h1 h2 h3
  obtain ⟨z, e0, w0⟩ := int_trod Try.underlying3 h0
  obtain ⟨t, e1, w1⟩ := int_trod Try.underlying29 h1
  obtain ⟨g, e2, w2⟩ := int_trod Try.underlying31 h2
  obtain ⟨A, kn, kc, k, e3, i3⟩ := isB_trod Try.underlying28 Try.underlying5 c8 h3 (fun q hq => hlt q (by rw [hp]; simp [hq]))
  obtain ⟨t', rfl, ht⟩ := nat_int (m := 4294967296) w1 rfl (by decide)
  obtain ⟨g', rfl, hg⟩ := nat_int (m := 65536) w2 rfl (by decide)
  simp at e0 e1 e2 e3
  subst e0 e1 e2 e3
  exact ⟨z, t', g', A, kn, kc, k, rfl, ht, hg, i3⟩
set_option maxRecDepth 100000 in
theorem keyNil (t g : Nat) (w : World) : Calls Try.prog 52 #[.pointer none, .int .u32 (t : Int), .int .u16 (g : Int)] w fun e w' => e = .returned (.tuple #[.slice none 0 0, .int .i64 1]) ∧ Below w.heap.size w w' := by
  go_enter Try.func52, Try.ntmps52
  go_wp2_with fail
  go_ret2
  exact ⟨rfl, by first | exact Below.refl _ _ | exact (Below.refl _ _).alloc (Nat.le_refl _) _ | exact ((Below.refl _ _).alloc (Nat.le_refl _) _).alloc (by simp) _⟩
set_option maxRecDepth 100000 in
theorem newestNil (t : Nat) (w : World) : Calls Try.prog 53 #[.pointer none, .int .u32 (t : Int)] w fun e w' => e = .returned (.tuple #[.int .u16 0, .int .i64 1]) ∧ Below w.heap.size w w' := by
  go_enter Try.func53, Try.ntmps53
  go_wp2_with fail
  go_ret2
  exact ⟨rfl, by first | exact Below.refl _ _ | exact (Below.refl _ _).alloc (Nat.le_refl _) _ | exact ((Below.refl _ _).alloc (Nat.le_refl _) _).alloc (by simp) _⟩
set_option maxRecDepth 100000 in
theorem addNil (t g : Nat) (A : Option Addr) (n c : Nat) (w : World) : Calls Try.prog 50 #[.pointer none, .int .u32 (t : Int), .int .u16 (g : Int), .slice A n c] w fun e w' => e = .returned (.int .i64 1) ∧ Below w.heap.size w w' := by
  go_enter Try.func50, Try.ntmps50
  go_wp2_with fail
  go_ret
  exact ⟨rfl, by first | exact Below.refl _ _ | exact (Below.refl _ _).alloc (Nat.le_refl _) _ | exact ((Below.refl _ _).alloc (Nat.le_refl _) _).alloc (by simp) _⟩
set_option maxRecDepth 100000 in
theorem dropNil (t g : Nat) (w : World) : Calls Try.prog 55 #[.pointer none, .int .u32 (t : Int), .int .u16 (g : Int)] w fun e w' => e = .returned (.int .i64 1) ∧ Below w.heap.size w w' := by
  go_enter Try.func55, Try.ntmps55
  go_wp2_with fail
  go_ret
  exact ⟨rfl, by first | exact Below.refl _ _ | exact (Below.refl _ _).alloc (Nat.le_refl _) _ | exact ((Below.refl _ _).alloc (Nat.le_refl _) _).alloc (by simp) _⟩
set_option maxRecDepth 100000 in
theorem gensNil (t : Nat) (w : World) : Calls Try.prog 57 #[.pointer none, .int .u32 (t : Int)] w fun e w' => e = .returned (.slice none 0 0) ∧ Below w.heap.size w w' := by
  go_enter Try.func57, Try.ntmps57
  go_wp2_with fail
  go_ret
  exact ⟨rfl, by first | exact Below.refl _ _ | exact (Below.refl _ _).alloc (Nat.le_refl _) _ | exact ((Below.refl _ _).alloc (Nat.le_refl _) _).alloc (by simp) _⟩
set_option maxRecDepth 100000 in
theorem lsealNil (l : Lb) (A : Option Addr) (n c : Nat) (u : Value) (w : World) : Calls Try.prog 16 #[.pointer none, .slice A n c, .agg #[.int .u32 (l.ten : Int), .int .u8 (l.k : Int), .int .u8 (l.lv : Int), .int .u32 (l.pg : Int), .int .u64 (l.cm : Int), .int .u16 (l.gn : Int)], u] w fun e w' => e = .returned (.tuple #[.slice none 0 0, .int .i64 1]) ∧ Below w.heap.size w w' := by
  go_enter Try.func16, Try.ntmps16
  go_wp2_with fail
  go_ret2
  exact ⟨rfl, by first | exact Below.refl _ _ | exact (Below.refl _ _).alloc (Nat.le_refl _) _ | exact ((Below.refl _ _).alloc (Nat.le_refl _) _).alloc (by simp) _⟩
set_option maxRecDepth 100000 in
theorem hasNil (A : Option Addr) (n c : Nat) (w : World) : Calls Try.prog 21 #[.pointer none, .slice A n c] w fun e w' => e = .returned (.bool false) ∧ Below w.heap.size w w' := by
  go_enter Try.func21, Try.ntmps21
  go_wp2_with fail
  go_ret
  exact ⟨rfl, by first | exact Below.refl _ _ | exact (Below.refl _ _).alloc (Nat.le_refl _) _ | exact ((Below.refl _ _).alloc (Nat.le_refl _) _).alloc (by simp) _⟩
set_option maxRecDepth 100000 in
theorem knowsNil (l : Lb) (A : Option Addr) (n c : Nat) (w : World) : Calls Try.prog 22 #[.pointer none, .agg #[.int .u32 (l.ten : Int), .int .u8 (l.k : Int), .int .u8 (l.lv : Int), .int .u32 (l.pg : Int), .int .u64 (l.cm : Int), .int .u16 (l.gn : Int)], .slice A n c] w fun e w' => e = .returned (.bool false) ∧ Below w.heap.size w w' := by
  go_enter Try.func22, Try.ntmps22
  go_wp2_with fail
  go_ret
  exact ⟨rfl, by first | exact Below.refl _ _ | exact (Below.refl _ _).alloc (Nat.le_refl _) _ | exact ((Below.refl _ _).alloc (Nat.le_refl _) _).alloc (by simp) _⟩
set_option maxRecDepth 100000 in
theorem countNil  (w : World) : Calls Try.prog 20 #[.pointer none] w fun e w' => e = .returned (.int .i64 0) ∧ Below w.heap.size w w' := by
  go_enter Try.func20, Try.ntmps20
  go_wp2_with fail
  go_ret
  exact ⟨rfl, by first | exact Below.refl _ _ | exact (Below.refl _ _).alloc (Nat.le_refl _) _ | exact ((Below.refl _ _).alloc (Nat.le_refl _) _).alloc (by simp) _⟩
set_option maxRecDepth 100000 in
theorem twiceNil  (w : World) : Calls Try.prog 24 #[.pointer none] w fun e w' => e = .returned (.slice none 0 0) ∧ Below w.heap.size w w' := by
  go_enter Try.func24, Try.ntmps24
  go_wp2_with fail
  go_ret
  exact ⟨rfl, by first | exact Below.refl _ _ | exact (Below.refl _ _).alloc (Nat.le_refl _) _ | exact ((Below.refl _ _).alloc (Nat.le_refl _) _).alloc (by simp) _⟩
set_option maxRecDepth 100000 in
set_option maxHeartbeats 4000000 in
theorem snone_any (z : Int) (t g : Nat) (A : Option Addr) (n c : Nat) (l : Lb) (w : World) :
    Calls Try.prog 12 #[.agg #[.int .i64 z, .int .u32 (t : Int), .int .u16 (g : Int), .slice A n c], .agg (lab l)] w fun e w' => e = .returned (.bool true) ∧ Below w.heap.size w w' := by
  have B0 : Hid (Below w.heap.size w ((w.alloc (.cells #[.int .i64 z, .int .u32 (t : Int), .int .u16 (g : Int), .slice A n c] 112)).alloc (.cells #[.int .u32 (l.ten : Int), .int .u8 (l.k : Int), .int .u8 (l.lv : Int), .int .u32 (l.pg : Int), .int .u64 (l.cm : Int), .int .u16 (l.gn : Int)] 35))) := Lib.hid (((Below.refl _ _).alloc (Nat.le_refl _) _).alloc (by simp) _)
  have OB : Hid (CbB ((w.alloc (.cells #[.int .i64 z, .int .u32 (t : Int), .int .u16 (g : Int), .slice A n c] 112)).alloc (.cells #[.int .u32 (l.ten : Int), .int .u8 (l.k : Int), .int .u8 (l.lv : Int), .int .u32 (l.pg : Int), .int .u64 (l.cm : Int), .int .u16 (l.gn : Int)] 35)) w.heap.size 112 #[.int .i64 z, .int .u32 (t : Int), .int .u16 (g : Int), .slice A n c]) := Lib.hid ((CbB.new w _ _).ab ((Below.refl _ _).alloc (Nat.le_refl _) _))
  have LB : Hid (CbB ((w.alloc (.cells #[.int .i64 z, .int .u32 (t : Int), .int .u16 (g : Int), .slice A n c] 112)).alloc (.cells #[.int .u32 (l.ten : Int), .int .u8 (l.k : Int), .int .u8 (l.lv : Int), .int .u32 (l.pg : Int), .int .u64 (l.cm : Int), .int .u16 (l.gn : Int)] 35)) (w.heap.size + 1) 35 #[.int .u32 (l.ten : Int), .int .u8 (l.k : Int), .int .u8 (l.lv : Int), .int .u32 (l.pg : Int), .int .u64 (l.cm : Int), .int .u16 (l.gn : Int)]) := Lib.hid (by
    have := CbB.new (w.alloc (.cells #[.int .i64 z, .int .u32 (t : Int), .int .u16 (g : Int), .slice A n c] 112)) 35 #[.int .u32 (l.ten : Int), .int .u8 (l.k : Int), .int .u8 (l.lv : Int), .int .u32 (l.pg : Int), .int .u64 (l.cm : Int), .int .u16 (l.gn : Int)]
    simpa using this)
  obtain ⟨w0, hw0⟩ : ∃ w0, ((w.alloc (.cells #[.int .i64 z, .int .u32 (t : Int), .int .u16 (g : Int), .slice A n c] 112)).alloc (.cells #[.int .u32 (l.ten : Int), .int .u8 (l.k : Int), .int .u8 (l.lv : Int), .int .u32 (l.pg : Int), .int .u64 (l.cm : Int), .int .u16 (l.gn : Int)] 35)) = w0 := ⟨_, rfl⟩
  rw [lab_cells]
  go_enter Try.func12, Try.ntmps12
  go_upto_region 1 with (fail)
  rw [hw0] at B0 OB LB
  try rw [hw0]
  clear hw0
  have OB0 := OB
  have LB0 := LB
  have B00 := B0
  clear OB LB B0
  have o1 : w0.cell? ⟨w.heap.size, 1, none⟩ = some (.int .u32 (t : Int)) := OB0.out.cell (k := 1) rfl
  have o2 : w0.cell? ⟨w.heap.size, 2, none⟩ = some (.int .u16 (g : Int)) := OB0.out.cell (k := 2) rfl
  have o3 : w0.cell? ⟨w.heap.size, 3, none⟩ = some (.slice A n c) := OB0.out.cell (k := 3) rfl
  have l0 : w0.cell? ⟨w.heap.size + 1, 0, none⟩ = some (.int .u32 (l.ten : Int)) := LB0.out.cell (k := 0) rfl
  have l1 : w0.cell? ⟨w.heap.size + 1, 1, none⟩ = some (.int .u8 (l.k : Int)) := LB0.out.cell (k := 1) rfl
  have l2 : w0.cell? ⟨w.heap.size + 1, 2, none⟩ = some (.int .u8 (l.lv : Int)) := LB0.out.cell (k := 2) rfl
  have l3 : w0.cell? ⟨w.heap.size + 1, 3, none⟩ = some (.int .u32 (l.pg : Int)) := LB0.out.cell (k := 3) rfl
  have l4 : w0.cell? ⟨w.heap.size + 1, 4, none⟩ = some (.int .u64 (l.cm : Int)) := LB0.out.cell (k := 4) rfl
  have l5 : w0.cell? ⟨w.heap.size + 1, 5, none⟩ = some (.int .u16 (l.gn : Int)) := LB0.out.cell (k := 5) rfl
  go_wp2_with fail
  refine (keyNil t g w0).mono ?_
  rintro e w1 ⟨rfl, hb⟩
  have OB1 := Lib.hid (OB0.out.ab hb)
  have LB1 := Lib.hid (LB0.out.ab hb)
  have B01 := Lib.hid (below_tr B00.out hb B00.out.size)
  clear hb OB0 LB0 B00
  clear o1 o2 o3 l0 l1 l2 l3 l4 l5
  have o1 : w1.cell? ⟨w.heap.size, 1, none⟩ = some (.int .u32 (t : Int)) := OB1.out.cell (k := 1) rfl
  have o2 : w1.cell? ⟨w.heap.size, 2, none⟩ = some (.int .u16 (g : Int)) := OB1.out.cell (k := 2) rfl
  have o3 : w1.cell? ⟨w.heap.size, 3, none⟩ = some (.slice A n c) := OB1.out.cell (k := 3) rfl
  have l0 : w1.cell? ⟨w.heap.size + 1, 0, none⟩ = some (.int .u32 (l.ten : Int)) := LB1.out.cell (k := 0) rfl
  have l1 : w1.cell? ⟨w.heap.size + 1, 1, none⟩ = some (.int .u8 (l.k : Int)) := LB1.out.cell (k := 1) rfl
  have l2 : w1.cell? ⟨w.heap.size + 1, 2, none⟩ = some (.int .u8 (l.lv : Int)) := LB1.out.cell (k := 2) rfl
  have l3 : w1.cell? ⟨w.heap.size + 1, 3, none⟩ = some (.int .u32 (l.pg : Int)) := LB1.out.cell (k := 3) rfl
  have l4 : w1.cell? ⟨w.heap.size + 1, 4, none⟩ = some (.int .u64 (l.cm : Int)) := LB1.out.cell (k := 4) rfl
  have l5 : w1.cell? ⟨w.heap.size + 1, 5, none⟩ = some (.int .u16 (l.gn : Int)) := LB1.out.cell (k := 5) rfl
  go_wp2_with fail
  refine (newestNil t w1).mono ?_
  rintro e w2 ⟨rfl, hb⟩
  have OB2 := Lib.hid (OB1.out.ab hb)
  have LB2 := Lib.hid (LB1.out.ab hb)
  have B02 := Lib.hid (below_tr B01.out hb B01.out.size)
  clear hb OB1 LB1 B01
  clear o1 o2 o3 l0 l1 l2 l3 l4 l5
  have o1 : w2.cell? ⟨w.heap.size, 1, none⟩ = some (.int .u32 (t : Int)) := OB2.out.cell (k := 1) rfl
  have o2 : w2.cell? ⟨w.heap.size, 2, none⟩ = some (.int .u16 (g : Int)) := OB2.out.cell (k := 2) rfl
  have o3 : w2.cell? ⟨w.heap.size, 3, none⟩ = some (.slice A n c) := OB2.out.cell (k := 3) rfl
  have l0 : w2.cell? ⟨w.heap.size + 1, 0, none⟩ = some (.int .u32 (l.ten : Int)) := LB2.out.cell (k := 0) rfl
  have l1 : w2.cell? ⟨w.heap.size + 1, 1, none⟩ = some (.int .u8 (l.k : Int)) := LB2.out.cell (k := 1) rfl
  have l2 : w2.cell? ⟨w.heap.size + 1, 2, none⟩ = some (.int .u8 (l.lv : Int)) := LB2.out.cell (k := 2) rfl
  have l3 : w2.cell? ⟨w.heap.size + 1, 3, none⟩ = some (.int .u32 (l.pg : Int)) := LB2.out.cell (k := 3) rfl
  have l4 : w2.cell? ⟨w.heap.size + 1, 4, none⟩ = some (.int .u64 (l.cm : Int)) := LB2.out.cell (k := 4) rfl
  have l5 : w2.cell? ⟨w.heap.size + 1, 5, none⟩ = some (.int .u16 (l.gn : Int)) := LB2.out.cell (k := 5) rfl
  go_wp2_with fail
  refine (lsealNil l A n c _ w2).mono ?_
  rintro e w3 ⟨rfl, hb⟩
  have OB3 := Lib.hid (OB2.out.ab hb)
  have LB3 := Lib.hid (LB2.out.ab hb)
  have B03 := Lib.hid (below_tr B02.out hb B02.out.size)
  clear hb OB2 LB2 B02
  clear o1 o2 o3 l0 l1 l2 l3 l4 l5
  have o1 : w3.cell? ⟨w.heap.size, 1, none⟩ = some (.int .u32 (t : Int)) := OB3.out.cell (k := 1) rfl
  have o2 : w3.cell? ⟨w.heap.size, 2, none⟩ = some (.int .u16 (g : Int)) := OB3.out.cell (k := 2) rfl
  have o3 : w3.cell? ⟨w.heap.size, 3, none⟩ = some (.slice A n c) := OB3.out.cell (k := 3) rfl
  have l0 : w3.cell? ⟨w.heap.size + 1, 0, none⟩ = some (.int .u32 (l.ten : Int)) := LB3.out.cell (k := 0) rfl
  have l1 : w3.cell? ⟨w.heap.size + 1, 1, none⟩ = some (.int .u8 (l.k : Int)) := LB3.out.cell (k := 1) rfl
  have l2 : w3.cell? ⟨w.heap.size + 1, 2, none⟩ = some (.int .u8 (l.lv : Int)) := LB3.out.cell (k := 2) rfl
  have l3 : w3.cell? ⟨w.heap.size + 1, 3, none⟩ = some (.int .u32 (l.pg : Int)) := LB3.out.cell (k := 3) rfl
  have l4 : w3.cell? ⟨w.heap.size + 1, 4, none⟩ = some (.int .u64 (l.cm : Int)) := LB3.out.cell (k := 4) rfl
  have l5 : w3.cell? ⟨w.heap.size + 1, 5, none⟩ = some (.int .u16 (l.gn : Int)) := LB3.out.cell (k := 5) rfl
  go_wp2_with fail
  refine (addNil t g A n c w3).mono ?_
  rintro e w4 ⟨rfl, hb⟩
  have OB4 := Lib.hid (OB3.out.ab hb)
  have LB4 := Lib.hid (LB3.out.ab hb)
  have B04 := Lib.hid (below_tr B03.out hb B03.out.size)
  clear hb OB3 LB3 B03
  clear o1 o2 o3 l0 l1 l2 l3 l4 l5
  have o1 : w4.cell? ⟨w.heap.size, 1, none⟩ = some (.int .u32 (t : Int)) := OB4.out.cell (k := 1) rfl
  have o2 : w4.cell? ⟨w.heap.size, 2, none⟩ = some (.int .u16 (g : Int)) := OB4.out.cell (k := 2) rfl
  have o3 : w4.cell? ⟨w.heap.size, 3, none⟩ = some (.slice A n c) := OB4.out.cell (k := 3) rfl
  have l0 : w4.cell? ⟨w.heap.size + 1, 0, none⟩ = some (.int .u32 (l.ten : Int)) := LB4.out.cell (k := 0) rfl
  have l1 : w4.cell? ⟨w.heap.size + 1, 1, none⟩ = some (.int .u8 (l.k : Int)) := LB4.out.cell (k := 1) rfl
  have l2 : w4.cell? ⟨w.heap.size + 1, 2, none⟩ = some (.int .u8 (l.lv : Int)) := LB4.out.cell (k := 2) rfl
  have l3 : w4.cell? ⟨w.heap.size + 1, 3, none⟩ = some (.int .u32 (l.pg : Int)) := LB4.out.cell (k := 3) rfl
  have l4 : w4.cell? ⟨w.heap.size + 1, 4, none⟩ = some (.int .u64 (l.cm : Int)) := LB4.out.cell (k := 4) rfl
  have l5 : w4.cell? ⟨w.heap.size + 1, 5, none⟩ = some (.int .u16 (l.gn : Int)) := LB4.out.cell (k := 5) rfl
  go_wp2_with fail
  refine (dropNil t g w4).mono ?_
  rintro e w5 ⟨rfl, hb⟩
  have OB5 := Lib.hid (OB4.out.ab hb)
  have LB5 := Lib.hid (LB4.out.ab hb)
  have B05 := Lib.hid (below_tr B04.out hb B04.out.size)
  clear hb OB4 LB4 B04
  clear o1 o2 o3 l0 l1 l2 l3 l4 l5
  have o1 : w5.cell? ⟨w.heap.size, 1, none⟩ = some (.int .u32 (t : Int)) := OB5.out.cell (k := 1) rfl
  have o2 : w5.cell? ⟨w.heap.size, 2, none⟩ = some (.int .u16 (g : Int)) := OB5.out.cell (k := 2) rfl
  have o3 : w5.cell? ⟨w.heap.size, 3, none⟩ = some (.slice A n c) := OB5.out.cell (k := 3) rfl
  have l0 : w5.cell? ⟨w.heap.size + 1, 0, none⟩ = some (.int .u32 (l.ten : Int)) := LB5.out.cell (k := 0) rfl
  have l1 : w5.cell? ⟨w.heap.size + 1, 1, none⟩ = some (.int .u8 (l.k : Int)) := LB5.out.cell (k := 1) rfl
  have l2 : w5.cell? ⟨w.heap.size + 1, 2, none⟩ = some (.int .u8 (l.lv : Int)) := LB5.out.cell (k := 2) rfl
  have l3 : w5.cell? ⟨w.heap.size + 1, 3, none⟩ = some (.int .u32 (l.pg : Int)) := LB5.out.cell (k := 3) rfl
  have l4 : w5.cell? ⟨w.heap.size + 1, 4, none⟩ = some (.int .u64 (l.cm : Int)) := LB5.out.cell (k := 4) rfl
  have l5 : w5.cell? ⟨w.heap.size + 1, 5, none⟩ = some (.int .u16 (l.gn : Int)) := LB5.out.cell (k := 5) rfl
  go_wp2_with fail
  refine (gensNil t w5).mono ?_
  rintro e w6 ⟨rfl, hb⟩
  have OB6 := Lib.hid (OB5.out.ab hb)
  have LB6 := Lib.hid (LB5.out.ab hb)
  have B06 := Lib.hid (below_tr B05.out hb B05.out.size)
  clear hb OB5 LB5 B05
  clear o1 o2 o3 l0 l1 l2 l3 l4 l5
  have o1 : w6.cell? ⟨w.heap.size, 1, none⟩ = some (.int .u32 (t : Int)) := OB6.out.cell (k := 1) rfl
  have o2 : w6.cell? ⟨w.heap.size, 2, none⟩ = some (.int .u16 (g : Int)) := OB6.out.cell (k := 2) rfl
  have o3 : w6.cell? ⟨w.heap.size, 3, none⟩ = some (.slice A n c) := OB6.out.cell (k := 3) rfl
  have l0 : w6.cell? ⟨w.heap.size + 1, 0, none⟩ = some (.int .u32 (l.ten : Int)) := LB6.out.cell (k := 0) rfl
  have l1 : w6.cell? ⟨w.heap.size + 1, 1, none⟩ = some (.int .u8 (l.k : Int)) := LB6.out.cell (k := 1) rfl
  have l2 : w6.cell? ⟨w.heap.size + 1, 2, none⟩ = some (.int .u8 (l.lv : Int)) := LB6.out.cell (k := 2) rfl
  have l3 : w6.cell? ⟨w.heap.size + 1, 3, none⟩ = some (.int .u32 (l.pg : Int)) := LB6.out.cell (k := 3) rfl
  have l4 : w6.cell? ⟨w.heap.size + 1, 4, none⟩ = some (.int .u64 (l.cm : Int)) := LB6.out.cell (k := 4) rfl
  have l5 : w6.cell? ⟨w.heap.size + 1, 5, none⟩ = some (.int .u16 (l.gn : Int)) := LB6.out.cell (k := 5) rfl
  go_wp2_with fail
  refine (hasNil A n c w6).mono ?_
  rintro e w7 ⟨rfl, hb⟩
  have OB7 := Lib.hid (OB6.out.ab hb)
  have LB7 := Lib.hid (LB6.out.ab hb)
  have B07 := Lib.hid (below_tr B06.out hb B06.out.size)
  clear hb OB6 LB6 B06
  clear o1 o2 o3 l0 l1 l2 l3 l4 l5
  have o1 : w7.cell? ⟨w.heap.size, 1, none⟩ = some (.int .u32 (t : Int)) := OB7.out.cell (k := 1) rfl
  have o2 : w7.cell? ⟨w.heap.size, 2, none⟩ = some (.int .u16 (g : Int)) := OB7.out.cell (k := 2) rfl
  have o3 : w7.cell? ⟨w.heap.size, 3, none⟩ = some (.slice A n c) := OB7.out.cell (k := 3) rfl
  have l0 : w7.cell? ⟨w.heap.size + 1, 0, none⟩ = some (.int .u32 (l.ten : Int)) := LB7.out.cell (k := 0) rfl
  have l1 : w7.cell? ⟨w.heap.size + 1, 1, none⟩ = some (.int .u8 (l.k : Int)) := LB7.out.cell (k := 1) rfl
  have l2 : w7.cell? ⟨w.heap.size + 1, 2, none⟩ = some (.int .u8 (l.lv : Int)) := LB7.out.cell (k := 2) rfl
  have l3 : w7.cell? ⟨w.heap.size + 1, 3, none⟩ = some (.int .u32 (l.pg : Int)) := LB7.out.cell (k := 3) rfl
  have l4 : w7.cell? ⟨w.heap.size + 1, 4, none⟩ = some (.int .u64 (l.cm : Int)) := LB7.out.cell (k := 4) rfl
  have l5 : w7.cell? ⟨w.heap.size + 1, 5, none⟩ = some (.int .u16 (l.gn : Int)) := LB7.out.cell (k := 5) rfl
  go_wp2_with fail
  refine (knowsNil l A n c w7).mono ?_
  rintro e w8 ⟨rfl, hb⟩
  have OB8 := Lib.hid (OB7.out.ab hb)
  have LB8 := Lib.hid (LB7.out.ab hb)
  have B08 := Lib.hid (below_tr B07.out hb B07.out.size)
  clear hb OB7 LB7 B07
  clear o1 o2 o3 l0 l1 l2 l3 l4 l5
  have o1 : w8.cell? ⟨w.heap.size, 1, none⟩ = some (.int .u32 (t : Int)) := OB8.out.cell (k := 1) rfl
  have o2 : w8.cell? ⟨w.heap.size, 2, none⟩ = some (.int .u16 (g : Int)) := OB8.out.cell (k := 2) rfl
  have o3 : w8.cell? ⟨w.heap.size, 3, none⟩ = some (.slice A n c) := OB8.out.cell (k := 3) rfl
  have l0 : w8.cell? ⟨w.heap.size + 1, 0, none⟩ = some (.int .u32 (l.ten : Int)) := LB8.out.cell (k := 0) rfl
  have l1 : w8.cell? ⟨w.heap.size + 1, 1, none⟩ = some (.int .u8 (l.k : Int)) := LB8.out.cell (k := 1) rfl
  have l2 : w8.cell? ⟨w.heap.size + 1, 2, none⟩ = some (.int .u8 (l.lv : Int)) := LB8.out.cell (k := 2) rfl
  have l3 : w8.cell? ⟨w.heap.size + 1, 3, none⟩ = some (.int .u32 (l.pg : Int)) := LB8.out.cell (k := 3) rfl
  have l4 : w8.cell? ⟨w.heap.size + 1, 4, none⟩ = some (.int .u64 (l.cm : Int)) := LB8.out.cell (k := 4) rfl
  have l5 : w8.cell? ⟨w.heap.size + 1, 5, none⟩ = some (.int .u16 (l.gn : Int)) := LB8.out.cell (k := 5) rfl
  go_wp2_with fail
  refine (countNil w8).mono ?_
  rintro e w9 ⟨rfl, hb⟩
  have OB9 := Lib.hid (OB8.out.ab hb)
  have LB9 := Lib.hid (LB8.out.ab hb)
  have B09 := Lib.hid (below_tr B08.out hb B08.out.size)
  clear hb OB8 LB8 B08
  clear o1 o2 o3 l0 l1 l2 l3 l4 l5
  have o1 : w9.cell? ⟨w.heap.size, 1, none⟩ = some (.int .u32 (t : Int)) := OB9.out.cell (k := 1) rfl
  have o2 : w9.cell? ⟨w.heap.size, 2, none⟩ = some (.int .u16 (g : Int)) := OB9.out.cell (k := 2) rfl
  have o3 : w9.cell? ⟨w.heap.size, 3, none⟩ = some (.slice A n c) := OB9.out.cell (k := 3) rfl
  have l0 : w9.cell? ⟨w.heap.size + 1, 0, none⟩ = some (.int .u32 (l.ten : Int)) := LB9.out.cell (k := 0) rfl
  have l1 : w9.cell? ⟨w.heap.size + 1, 1, none⟩ = some (.int .u8 (l.k : Int)) := LB9.out.cell (k := 1) rfl
  have l2 : w9.cell? ⟨w.heap.size + 1, 2, none⟩ = some (.int .u8 (l.lv : Int)) := LB9.out.cell (k := 2) rfl
  have l3 : w9.cell? ⟨w.heap.size + 1, 3, none⟩ = some (.int .u32 (l.pg : Int)) := LB9.out.cell (k := 3) rfl
  have l4 : w9.cell? ⟨w.heap.size + 1, 4, none⟩ = some (.int .u64 (l.cm : Int)) := LB9.out.cell (k := 4) rfl
  have l5 : w9.cell? ⟨w.heap.size + 1, 5, none⟩ = some (.int .u16 (l.gn : Int)) := LB9.out.cell (k := 5) rfl
  go_wp2_with fail
  refine (twiceNil w9).mono ?_
  rintro e w10 ⟨rfl, hb⟩
  have OB10 := Lib.hid (OB9.out.ab hb)
  have LB10 := Lib.hid (LB9.out.ab hb)
  have B010 := Lib.hid (below_tr B09.out hb B09.out.size)
  clear hb OB9 LB9 B09
  clear o1 o2 o3 l0 l1 l2 l3 l4 l5
  have o1 : w10.cell? ⟨w.heap.size, 1, none⟩ = some (.int .u32 (t : Int)) := OB10.out.cell (k := 1) rfl
  have o2 : w10.cell? ⟨w.heap.size, 2, none⟩ = some (.int .u16 (g : Int)) := OB10.out.cell (k := 2) rfl
  have o3 : w10.cell? ⟨w.heap.size, 3, none⟩ = some (.slice A n c) := OB10.out.cell (k := 3) rfl
  have l0 : w10.cell? ⟨w.heap.size + 1, 0, none⟩ = some (.int .u32 (l.ten : Int)) := LB10.out.cell (k := 0) rfl
  have l1 : w10.cell? ⟨w.heap.size + 1, 1, none⟩ = some (.int .u8 (l.k : Int)) := LB10.out.cell (k := 1) rfl
  have l2 : w10.cell? ⟨w.heap.size + 1, 2, none⟩ = some (.int .u8 (l.lv : Int)) := LB10.out.cell (k := 2) rfl
  have l3 : w10.cell? ⟨w.heap.size + 1, 3, none⟩ = some (.int .u32 (l.pg : Int)) := LB10.out.cell (k := 3) rfl
  have l4 : w10.cell? ⟨w.heap.size + 1, 4, none⟩ = some (.int .u64 (l.cm : Int)) := LB10.out.cell (k := 4) rfl
  have l5 : w10.cell? ⟨w.heap.size + 1, 5, none⟩ = some (.int .u16 (l.gn : Int)) := LB10.out.cell (k := 5) rfl
  go_wp2_with fail
  refine (known10_any _).mono ?_
  rintro e w11 ⟨rfl, hb⟩
  have B9 := Lib.hid (below_tr B010.out hb B010.out.size)
  clear hb
  go_wp2_with fail
  go_ret
  exact ⟨rfl, B9.out⟩
set_option maxRecDepth 100000 in
theorem snone_walk (v u : Value) (w : World) (hk : ∃ base, Value.okWide Try.prog w .any base 112 v) {H : Type} {enc : TypeId × Value → H} {d : DataW H} {p : List MemPlace} (hd : DataW.Trod enc Try.prog w 0 (fun _ => true) true 112 v d p) (hp : ∀ x ∈ p, x.block < w.heap.size)
    (hk2 : ∃ base, Value.okWide Try.prog w .any base 35 u) {d2 : DataW H} {p2 : List MemPlace} (_ : DataW.Trod enc Try.prog w 0 (fun _ => true) true 35 u d2 p2) (_ : ∀ x ∈ p2, x.block < w.heap.size) :
    Calls Try.prog 12 #[v, u] w fun e w' => e = .returned (.bool true) ∧ Below w.heap.size w w' := by
  obtain ⟨base, hk⟩ := hk
  obtain ⟨base2, hk2⟩ := hk2
  obtain ⟨z, t, g, A, n, c, k, rfl, _, _, _⟩ := open_sop hk hd hp
  obtain ⟨l, rfl, _⟩ := open_label hk2
  exact snone_any z t g A n c l w
end Go.Proofs.Ytmeakfocppooiaa
