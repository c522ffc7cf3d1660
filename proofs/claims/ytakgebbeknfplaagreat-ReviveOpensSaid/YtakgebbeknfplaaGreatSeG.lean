/-
  SealWords, SealSeals: the walks.
  WALKS: seal.Told and the reference's Told (P10.2).
  WALKS: the reference's Told (P10.2).
  SealOpens, SealBack: the walks.
-/
import Derived.Test.YtakgebbeknfplaaGreatSeE
import Derived.Test.YtakgebbeknfplaaGreatSeD
namespace Go.Proofs.YtakgebbeknfplaaGreat
open Go.RowKit
set_option linter.unusedVariables false

section
variable {P : Program}
/-- a struct of integers that came in -/
theorem okWide_ints {w : World} {r : Reach} {base : Nat} {t : TypeId} {fs : Array Field} {v : Value} {ts : List TypeId} (ht : P.underlying t = some (.struct fs)) (hts : P.cellTypes P.depth t = some ts) (h : Value.okWide P w r base t v) :
    ∃ cs, v = .agg cs ∧ cs.size = P.cellsOf t ∧ ∀ (i : Nat) (u : TypeId) (k : IntKind), ts[i]? = some u → P.underlying u = some (.int k) → ∀ x, cs[i]? = some x → ∃ z, x = .int k z ∧ k.min ≤ z ∧ z ≤ k.max := by
  simp only [Value.okWide, ht] at h
  obtain ⟨cs, rfl, hs, ts', h1, _, h2⟩ := h
  rw [hts] at h1
  injection h1 with h1
  subst h1
  refine ⟨cs, rfl, hs, fun i u k hu hk x hx => ?_⟩
  obtain ⟨u', hu', hc⟩ := h2 i x hx
  rw [Nat.mod_eq_of_lt (by rcases Nat.lt_or_ge i ts.length with h | h; exact h; rw [List.getElem?_eq_none h] at hu; cases hu), hu] at hu'
  injection hu' with hu'
  subst hu'
  cases x <;> simp only [Cell.okWide, hk, Cell.ok] at hc
  rename_i k' z
  obtain ⟨rfl, hz⟩ := hc
  simp only [IntKind.has] at hz
  exact ⟨z, rfl, by omega, by omega⟩
end
theorem array6' {α : Type} {cs : Array α} (h : cs.size = 6) : ∃ c0 c1 c2 c3 c4 c5, cs = #[c0, c1, c2, c3, c4, c5] := by
  obtain ⟨l⟩ := cs
  match l, h with
  | [c0, c1, c2, c3, c4, c5], _ => exact ⟨c0, c1, c2, c3, c4, c5, rfl⟩
set_option maxRecDepth 100000 in
theorem open_label {W : World} {r : Reach} {base : Nat} {v : Value} (hk : Value.okWide Tryz.prog W r base 149 v) : ∃ l : Lb, v = .agg (lab l) ∧ l.Ok := by
  obtain ⟨cs, rfl, hs, hc⟩ := okWide_ints (ts := [41, 5, 5, 41, 24, 42]) Tryz.underlying149 (by kernel_rfl) hk
  have h6 : Tryz.prog.cellsOf 149 = 6 := by kernel_rfl
  rw [h6] at hs
  obtain ⟨c0, c1, c2, c3, c4, c5, rfl⟩ := array6' hs
  obtain ⟨z0, rfl, a0, b0⟩ := hc 0 _ .u32 rfl Tryz.underlying41 _ rfl
  obtain ⟨z1, rfl, a1, b1⟩ := hc 1 _ .u8 rfl Tryz.underlying5 _ rfl
  obtain ⟨z2, rfl, a2, b2⟩ := hc 2 _ .u8 rfl Tryz.underlying5 _ rfl
  obtain ⟨z3, rfl, a3, b3⟩ := hc 3 _ .u32 rfl Tryz.underlying41 _ rfl
  obtain ⟨z4, rfl, a4, b4⟩ := hc 4 _ .u64 rfl Tryz.underlying24 _ rfl
  obtain ⟨z5, rfl, a5, b5⟩ := hc 5 _ .u16 rfl Tryz.underlying42 _ rfl
  have e8 : IntKind.u8.min = 0 ∧ IntKind.u8.max = 255 := ⟨rfl, rfl⟩
  have e16 : IntKind.u16.min = 0 ∧ IntKind.u16.max = 65535 := ⟨rfl, rfl⟩
  have e32 : IntKind.u32.min = 0 ∧ IntKind.u32.max = 4294967295 := ⟨rfl, rfl⟩
  have e64 : IntKind.u64.min = 0 ∧ IntKind.u64.max = 18446744073709551615 := ⟨rfl, rfl⟩
  obtain ⟨n0, rfl⟩ : ∃ n : Nat, z0 = (n : Int) := ⟨z0.toNat, by omega⟩
  obtain ⟨n1, rfl⟩ : ∃ n : Nat, z1 = (n : Int) := ⟨z1.toNat, by omega⟩
  obtain ⟨n2, rfl⟩ : ∃ n : Nat, z2 = (n : Int) := ⟨z2.toNat, by omega⟩
  obtain ⟨n3, rfl⟩ : ∃ n : Nat, z3 = (n : Int) := ⟨z3.toNat, by omega⟩
  obtain ⟨n4, rfl⟩ : ∃ n : Nat, z4 = (n : Int) := ⟨z4.toNat, by omega⟩
  obtain ⟨n5, rfl⟩ : ∃ n : Nat, z5 = (n : Int) := ⟨z5.toNat, by omega⟩
  exact ⟨⟨n0, n1, n2, n3, n4, n5⟩, rfl, by show n0 < 4294967296; omega, by show n1 < 256; omega, by show n2 < 256; omega, by show n3 < 4294967296; omega, by show n4 < 18446744073709551616; omega, by show n5 < 65536; omega⟩
end Go.Proofs.YtakgebbeknfplaaGreat

namespace Go.Proofs.YtakgebbeknfplaaGreat
open Go.RowKit
set_option linter.unusedVariables false

theorem strOf_list (l : List Nat) : (strOf l).data.toList = l.map UInt8.ofNat := rfl
theorem byt_map_inj {a b : List Nat} (ha : Byt a) (hb : Byt b) (h : a.map UInt8.ofNat = b.map UInt8.ofNat) : a = b := (strOf_inj ha hb).1 (by unfold strOf; rw [h])
def magL : List Nat := [67, 72, 84, 49]
/-- what a head says: kind, level, generation, commit; and the refusal -/
structure ToldR where
  k : Nat
  lv : Nat
  gn : Nat
  cm : Nat
  err : Nat
def toldOk (s : List Nat) : Prop := s.take 4 = magL ∧ 1 ≤ at' s 4 ∧ at' s 4 ≤ 4
instance (s : List Nat) : Decidable (toldOk s) := by unfold toldOk; infer_instance
def toldP (s : List Nat) : ToldR :=
  if s.length = 256 then if toldOk s then ⟨at' s 4, at' s 5, numB ((s.drop 6).take 2), numB ((s.drop 8).take 8), 0⟩ else ⟨0, 0, 0, 0, 100⟩ else ⟨0, 0, 0, 0, 2⟩
def toldV (t : ToldR) : Value := .tuple #[.int .u8 (t.k : Int), .int .u8 (t.lv : Int), .int .u16 (t.gn : Int), .int .u64 (t.cm : Int), .int .i64 (t.err : Int)]
set_option maxRecDepth 100000 in
set_option maxHeartbeats 1000000 in
theorem getB_any (A : Option Addr) (n c : Nat) (l : List Nat) (w : World) (hin : IsB w A n c l) (h1 : 1 ≤ n) (h8 : n ≤ 8) :
    Calls Tryz.prog 184 #[.slice A n c] w fun e w' => e = .returned (.tuple #[.int .u64 (numB l : Int), .int .i64 0]) ∧ w = w' := by
  obtain ⟨x0, rfl, hx0, hcl⟩ := hin.cell (by omega)
  have HC := Lib.hid hcl
  have HL := Lib.hid hin.len
  have HB := Lib.hid hin.2
  have hn1 : (1 : Int) ≤ (n : Int) := by omega
  have hn8 : (n : Int) ≤ 8 := by omega
  have hd1 : decide ((n : Int) < 1) = false := by simp; omega
  have hd2 : decide (8 < (n : Int)) = false := by simp; omega
  clear hin hcl
  go_enter Tryz.func184, Tryz.ntmps184
  go_wp2_with fail
  go_loop [4, 6, 17] (fun v _ j => ∃ i : Nat, i ≤ n ∧ j = .int .i64 i ∧ v = .int .u64 (numB (l.take i) : Nat)) (fun _ _ j => n - (intOf j).toNat)
  case atStart => exact ⟨0, by omega, rfl, rfl⟩
  case round =>
    obtain ⟨i, hi, rfl, rfl⟩ := hrel
    by_cases hlt : i < n
    · have hii : (i : Int) < (n : Int) := by omega
      have hcl := HC.out i hlt
      have hx := HB.out.at' i
      have hm := numB_take HB.out (by rw [HL.out]; exact h8) (p := i) (by rw [HL.out]; exact hlt)
      have hs := take_snoc' (l := l) (p := i) (by rw [HL.out]; exact hlt)
      have hnum : numB (l.take (i + 1)) = 256 * numB (l.take i) + at' l i := by rw [hs, numB_snoc]
      generalize at' l i = x at hcl hx hnum
      generalize numB (l.take i) = m at hm hnum
      have hor := or_byte m x hm hx
      have hw1 := wrap_u64' (n := 18446744073709551615) (by decide) ((m : Int) * 256) (by omega) (by omega)
      have hw2 := wrap_u64' (n := 256) (by decide) (x : Int) (by omega) (by omega)
      have HN := Lib.hid hnum
      clear hs hnum
      go_wp2
      go_round
      case rel => exact ⟨i + 1, by omega, by go_num, by rw [HN.out]; go_num⟩
      case measure => simp [intOf]; omega
    · obtain rfl : i = n := by omega
      have he : l.take i = l := List.take_of_length_le (by rw [HL.out]; omega)
      rw [he]
      clear he
      generalize hme : numB l = m
      have HME := Lib.hid hme
      clear hme
      go_wp2
      go_ret2
      exact ⟨by rw [HME.out]; rfl, rfl⟩
theorem strOf_toList (l : List Nat) : (strOf l).toList = l.map UInt8.ofNat := ByteArray.toList_mk _
theorem str_eq {x y : List Nat} (hx : Byt x) (hy : Byt y) : ((strOf x).toList == (strOf y).toList) = decide (x = y) := by
  rw [strOf_toList, strOf_toList]
  by_cases h : x = y
  · rw [decide_eq_true h, h]; simp
  · rw [decide_eq_false h, beq_eq_false_iff_ne]
    exact fun e => h (byt_map_inj hx hy e)
theorem magL_byt : Byt magL := by unfold Byt magL; decide
theorem str_mag {x : List Nat} (hx : Byt x) : ((strOf x).toList == [67, 72, 84, 49]) = decide (x = magL) := by
  have := str_eq hx magL_byt
  rw [strOf_toList magL] at this
  exact this
/-- s[l:h] of bytes -/
theorem sl_mid (W : World) (A : Option Addr) (n c l h : Nat) (hlh : l ≤ h) (hh : h ≤ c) : (Instr.sliceAt 22 (.slice A n c) (some (.int .i64 (l : Int))) (some (.int .i64 (h : Int))) none).run Tryz.prog W = .ok (.slice (dropA A c l) (h - l) (c - l)) W := by
  have hu : Tryz.prog.underlying 22 = some (.slice (Tryz.prog.elem 22)) := by kernel_rfl
  rw [run_sliceAt_slice W _ _ _ _ _ hu, run_slice_lh W _ _ _ _ hu .i64 .i64 (l : Int) (h : Int) (by omega) (by omega) (by omega), sl_size]
  simp only [Result.andThen_ok, sliced, Nat.mul_one, Int.toNat_natCast]
  unfold dropA
  rfl
theorem numB_lt2 {l : List Nat} (hb : Byt l) (hl : l.length = 2) : numB l < 65536 := by
  have := numB_lt hb
  rw [hl] at this
  exact this
set_option maxRecDepth 100000 in
set_option maxHeartbeats 4000000 in
theorem told_ok (A : Option Addr) (c : Nat) (s : List Nat) (w : World) (h : IsB w A 256 c s) (hok : toldOk s) :
    Calls Tryz.prog 131 #[.slice A 256 c] w fun e w' => e = .returned (toldV ⟨at' s 4, at' s 5, numB ((s.drop 6).take 2), numB ((s.drop 8).take 8), 0⟩) ∧ Below w.heap.size w w' := by
  have hcap := h.1.lenCap
  have hlen := h.len
  obtain ⟨o1, o2, o3⟩ := hok
  have h4 := h.take (m := 4) (by decide)
  rw [o1] at h4
  have hst : (convert 22 9 (.slice A 4 c)).run Tryz.prog w = .ok (.string (strOf magL)) w := run_str h4 _ _ _ Tryz.underlying22 Tryz.underlying5 Tryz.underlying9
  have hs4 : ∀ W, (Instr.sliceAt 22 (.slice A 256 c) none (some (.int .i64 4)) none).run Tryz.prog W = .ok (.slice A 4 c) W := fun W => sl_upto W A 256 c 4 (by omega)
  have hmg : ((strOf magL).toList == [67, 72, 84, 49]) = true := by rw [str_mag magL_byt]; decide
  have hs6 : ∀ W, (Instr.sliceAt 22 (.slice A 256 c) (some (.int .i64 6)) (some (.int .i64 8)) none).run Tryz.prog W = .ok (.slice (dropA A c 6) 2 (c - 6)) W := fun W => sl_mid W A 256 c 6 8 (by decide) (by omega)
  have hs8 : ∀ W, (Instr.sliceAt 22 (.slice A 256 c) (some (.int .i64 8)) (some (.int .i64 16)) none).run Tryz.prog W = .ok (.slice (dropA A c 8) 8 (c - 8)) W := fun W => sl_mid W A 256 c 8 16 (by decide) (by omega)
  have i6 := (isB_drop h (m := 6) (by decide)).take (m := 2) (by decide)
  have i8 := (isB_drop h (m := 8) (by decide)).take (m := 8) (by decide)
  obtain ⟨x, rfl, hxb, hxc⟩ := h.cell (by decide)
  have c4 : w.cell? ⟨x.block, x.off + 4, none⟩ = some (.int .u8 (at' s 4 : Nat)) := hxc 4 (by decide)
  have c5 : w.cell? ⟨x.block, x.off + 5, none⟩ = some (.int .u8 (at' s 5 : Nat)) := hxc 5 (by decide)
  have k1 : decide (((at' s 4 : Nat) : Int) < 1) = false := by simp; omega
  have k2 : decide ((4 : Int) < ((at' s 4 : Nat) : Int)) = false := by simp; omega
  have n2 := numB_lt2 i6.2 i6.len
  have HG6 := Lib.hid (getB_any _ 2 (c - 6) _ w i6 (by decide) (by decide))
  have HG8 := Lib.hid (getB_any _ 8 (c - 8) _ w i8 (by decide) (by decide))
  generalize numB ((s.drop 6).take 2) = gn at *
  generalize numB ((s.drop 8).take 8) = cm at *
  generalize at' s 4 = a4 at *
  generalize at' s 5 = a5 at *
  have hw : IntKind.u16.wrap (gn : Int) = (gn : Int) := by
    have e1 : IntKind.u16.min = 0 ∧ IntKind.u16.max = 65535 := ⟨rfl, rfl⟩
    show (gn : Int) % 65536 = (gn : Int)
    omega
  generalize dropA (some x) c 6 = D6 at *
  generalize dropA (some x) c 8 = D8 at *
  clear h h4 o1 o2 o3 i6 i8 hxc hlen
  go_enter Tryz.func131, Tryz.ntmps131
  go_wp2_with fail
  refine HG6.out.mono ?_
  rintro e w' ⟨rfl, rfl⟩
  go_wp2_with fail
  refine HG8.out.mono ?_
  rintro e w' ⟨rfl, rfl⟩
  go_wp2_with fail
  refine wp_still_tail 13 (by kernel_rfl) (by kernel_rfl) ?_
  simp only [List.take_succ_cons, List.take_zero, List.drop_succ_cons, List.drop_zero]
  repeat still_step
  refine wpStill_nil ?_
  go_wp2_with fail
  exact bodyPost_ret (v := .tuple #[.int .u8 (a4 : Int), .int .u8 (a5 : Int), .int .u16 (gn : Int), .int .u64 (cm : Int), .int .i64 0]) (by simp [results, Tryz.results131, go_sem]) rfl ⟨rfl, (Below.refl _ _).drew⟩
set_option maxRecDepth 100000 in
set_option maxHeartbeats 1000000 in
theorem told_short (A : Option Addr) (n c : Nat) (w : World) (h : n ≠ 256) :
    Calls Tryz.prog 131 #[.slice A n c] w fun e w' => e = .returned (toldV ⟨0, 0, 0, 0, 2⟩) ∧ Below w.heap.size w w' := by
  have h1 : ((n : Int) != 256) = true := by simp; omega
  go_enter Tryz.func131, Tryz.ntmps131
  go_wp2_with fail
  exact bodyPost_ret (v := .tuple #[.int .u8 0, .int .u8 0, .int .u16 0, .int .u64 0, .int .i64 2]) (by simp [results, Tryz.results131, go_sem]) rfl ⟨rfl, Below.refl _ _⟩
set_option maxRecDepth 100000 in
set_option maxHeartbeats 4000000 in
theorem told_bad (A : Option Addr) (c : Nat) (s : List Nat) (w : World) (h : IsB w A 256 c s) (hok : ¬ toldOk s) :
    Calls Tryz.prog 131 #[.slice A 256 c] w fun e w' => e = .returned (toldV ⟨0, 0, 0, 0, 100⟩) ∧ Below w.heap.size w w' := by
  have hcap := h.1.lenCap
  have h4 := h.take (m := 4) (by decide)
  have hst : (convert 22 9 (.slice A 4 c)).run Tryz.prog w = .ok (.string (strOf (s.take 4))) w := run_str h4 _ _ _ Tryz.underlying22 Tryz.underlying5 Tryz.underlying9
  have hs4 : ∀ W, (Instr.sliceAt 22 (.slice A 256 c) none (some (.int .i64 4)) none).run Tryz.prog W = .ok (.slice A 4 c) W := fun W => sl_upto W A 256 c 4 (by omega)
  have hmg := str_mag h4.2
  obtain ⟨x, rfl, hxb, hxc⟩ := h.cell (by decide)
  have c4 : w.cell? ⟨x.block, x.off + 4, none⟩ = some (.int .u8 (at' s 4 : Nat)) := hxc 4 (by decide)
  have hcase : decide (s.take 4 = magL) = false ∨ (decide (s.take 4 = magL) = true ∧ decide (((at' s 4 : Nat) : Int) < 1) = true) ∨ (decide (s.take 4 = magL) = true ∧ decide (((at' s 4 : Nat) : Int) < 1) = false ∧ decide ((4 : Int) < ((at' s 4 : Nat) : Int)) = true) := by
    by_cases h1 : s.take 4 = magL
    · right
      rw [decide_eq_true h1]
      by_cases h2 : 1 ≤ at' s 4
      · right
        refine ⟨rfl, by simp; omega, ?_⟩
        have : ¬ at' s 4 ≤ 4 := fun h3 => hok ⟨h1, h2, h3⟩
        simp; omega
      · left
        exact ⟨rfl, by simp; omega⟩
    · left
      exact decide_eq_false h1
  generalize at' s 4 = a4 at *
  generalize s.take 4 = s4 at *
  clear h h4 hok hxc
  rcases hcase with h1 | ⟨h1, h2⟩ | ⟨h1, h2, h3⟩
  all_goals
    rw [h1] at hmg
    clear h1
    go_enter Tryz.func131, Tryz.ntmps131
    go_wp2_with fail
    exact bodyPost_ret (v := .tuple #[.int .u8 0, .int .u8 0, .int .u16 0, .int .u64 0, .int .i64 100]) (by simp [results, Tryz.results131, go_sem]) rfl ⟨rfl, Below.refl _ _⟩
theorem told_any (A : Option Addr) (n c : Nat) (s : List Nat) (w : World) (h : IsB w A n c s) :
    Calls Tryz.prog 131 #[.slice A n c] w fun e w' => e = .returned (toldV (toldP s)) ∧ Below w.heap.size w w' := by
  have hl := h.len
  unfold toldP
  by_cases hn : n = 256
  · subst hn
    rw [if_pos hl]
    by_cases ho : toldOk s
    · rw [if_pos ho]
      exact told_ok A c s w h ho
    · rw [if_neg ho]
      exact told_bad A c s w h ho
  · rw [if_neg (by omega)]
    exact told_short A n c w hn
end Go.Proofs.YtakgebbeknfplaaGreat

namespace Go.Proofs.YtakgebbeknfplaaGreat
open Go.RowKit
set_option linter.unusedVariables false

theorem szL6 : (Tryz.prog.info? 149).map (·.size) = some 6 := by kernel_rfl
section
variable {w w' : World} {B : Nat} {cs : Array Value}
theorem LbR.row (k : LbR w B cs) (cs' : Array Value) : LbR (w.setRow B cs') B cs' := setRow_heap w B _ _ _ _ k
theorem LbR.rowFar (k : LbR w B cs) {c : Nat} (hne : B ≠ c) (cs' : Array Value) : LbR (w.setRow c cs') B cs := (setRow_other w c B cs' hne).trans k
theorem LbR.set (k : LbR w B cs) (j : Nat) (v : Value) : LbR (w.setCell ⟨B, j, none⟩ v) B (cs.setIfInBounds j v) := heap_setCell_same w B j _ _ v k
theorem LbR.free (k : LbR w B cs) (j : Nat) : w.frozen? ⟨B, j, none⟩ = false := frozen_of_row w B j _ _ k
end
/-- a store of a label, the new world under a name of its own -/
theorem wpList_store6 {ops : Array Oper} {rest : List Oper} {o : Oper} {a : Act} {w : World} {Q : Exit → Act → World → Prop} (hgd : o.guard = none) (x y : Operand) (ho : o.op = .store 149 x y)
    (g : Nat) (hx : a.eval x = .pointer (some ⟨g, 0, none⟩)) (cs' : Array Value) (hy : a.eval y = .agg cs') (h6 : cs'.size = 6) (h1 : cs'.all (·.oneCell') = true) {cs : Array Value} (hg : LbR w g cs) (h0 : cs.size = 6)
    (h : ∀ w2, w2 = w.setRow g cs' → wpList Tryz.prog ops Q rest (a.put o.dst undef) w2) : wpList Tryz.prog ops Q (o :: rest) a w := by
  have hrun := run_storeVar_row (P := Tryz.prog) w g 149 149 cs cs' hg (by rw [h6]; exact szL6) (by rw [h0, h6]) h1
  refine wpList_plain hgd fun K hK => ?_
  have hK := hK _ _ (h _ rfl)
  unfold Oper.wp execOp
  simp only [ho, hx, hy, Instr.storeAt, Instr.sureAddr, Sem.run_bind, Sem.run_pure, Result.andThen_ok, hrun]
  exact hK
/-- a fresh label of noughts -/
def NewL (w0 : World) (v : Value) (W : World) : Prop := ∃ g, v = .pointer (some ⟨g, 0, none⟩) ∧ LbR W g #[.int .u32 0, .int .u8 0, .int .u8 0, .int .u32 0, .int .u64 0, .int .u16 0] ∧ w0.heap.size ≤ g
theorem NewL.mono (w0 : World) : Mono (NewL w0) := fun v W W' ⟨g, h1, h2, h3⟩ hb => ⟨g, h1, h2.ab hb, h3⟩
def AnyR (_ : Value) (_ : World) : Prop := True
theorem AnyR.mono : Mono AnyR := fun _ _ _ _ _ => trivial
theorem head_split {s : List Nat} (hb : Byt s) (hl : s.length = 256) : (s.take 16 = headL ⟨0, at' s 4, at' s 5, 0, numB ((s.drop 8).take 8), numB ((s.drop 6).take 2)⟩) = (s.take 4 = magL) := by
  have e2 : ((s.drop 6).take 2).length = 2 := by simp [hl]
  have e8 : ((s.drop 8).take 8).length = 8 := by simp [hl]
  have d2 := digB_numB ((s.drop 6).take 2) (byt_take (byt_drop hb 6) 2)
  have d8 := digB_numB ((s.drop 8).take 8) (byt_take (byt_drop hb 8) 8)
  rw [e2] at d2
  rw [e8] at d8
  have b4 : at' s 4 < 256 := hb.at' 4
  have b5 : at' s 5 < 256 := hb.at' 5
  have e : headL ⟨0, at' s 4, at' s 5, 0, numB ((s.drop 8).take 8), numB ((s.drop 6).take 2)⟩ = magL ++ (s.drop 4).take 12 := by
    unfold headL headN
    simp only [flatN, digB_one b4, digB_one b5, d2, d8, List.append_nil]
    have x1 : (s.drop 4).take 12 = [at' s 4] ++ ([at' s 5] ++ ((s.drop 6).take 2 ++ (s.drop 8).take 8)) := by
      refine at'_ext (by simp [hl]) fun j hj => ?_
      have hj : j < 12 := by simpa [hl] using hj
      rw [at'_take8 hj, at'_drop]
      match j, hj with
      | 0, _ => rfl
      | 1, _ => rfl
      | j + 2, hj =>
        show at' s (4 + (j + 2)) = at' ((s.drop 6).take 2 ++ (s.drop 8).take 8) j
        by_cases h : j < 2
        · rw [at_left _ _ _ (by rw [e2]; exact h), at'_take8 h, at'_drop]
          congr 1
          omega
        · rw [at_right _ _ (by rw [e2]; omega), e2, at'_take8 (by omega), at'_drop]
          congr 1
          omega
    rw [x1]
    rfl
  rw [e]
  have h16 : s.take 16 = s.take 4 ++ (s.drop 4).take 12 := by
    rw [show (16 : Nat) = 4 + 12 from rfl, List.take_add]
  rw [h16]
  apply propext
  constructor
  · intro h
    exact (List.append_inj h (by simp [hl]; rfl)).1
  · intro h
    rw [h]
set_option maxRecDepth 100000 in
set_option maxHeartbeats 4000000 in
theorem rtold_short (A : Option Addr) (n c : Nat) (w : World) (h : n ≠ 256) :
    Calls Tryz.prog 133 #[.slice A n c] w fun e w' => e = .returned (.tuple #[.agg (lab ⟨0, 0, 0, 0, 0, 0⟩), .int .i64 2]) ∧ Below w.heap.size w w' := by
  have h1 : ((n : Int) != 256) = true := by simp; omega
  have R0 : Hid (LbR (w.alloc (.cells #[.int .u32 0, .int .u8 0, .int .u8 0, .int .u32 0, .int .u64 0, .int .u16 0] 149)) w.heap.size #[.int .u32 0, .int .u8 0, .int .u8 0, .int .u32 0, .int .u64 0, .int .u16 0]) := Lib.hid (heap_alloc_new w _)
  go_enter Tryz.func133, Tryz.ntmps133
  go_wp2_with fail
  exact bodyPost_ret (v := .tuple #[.agg #[.int .u32 0, .int .u8 0, .int .u8 0, .int .u32 0, .int .u64 0, .int .u16 0], .int .i64 2]) (by simp [results, Tryz.results133, go_sem]) rfl ⟨rfl, (Below.refl _ _).alloc (Nat.le_refl _) _⟩
theorem yields_value2 {P : Program} {o : Oper} {a : Act} {W : World} {R : Value → World → Prop} (v : Value) (W' : World) (h : (execOp a.eval o).run P W = .ok (.value v) W') (hR : R v W') (hb : Below W.heap.size W W') : Yields P o a W false R := .inl ⟨v, W', h, hR, hb, fresh_no _ _ _⟩
set_option maxRecDepth 100000 in
set_option maxHeartbeats 4000000 in
theorem rtold_ok (A : Option Addr) (c : Nat) (s : List Nat) (w : World) (h : IsB w A 256 c s) (hok : toldOk s) :
    Calls Tryz.prog 133 #[.slice A 256 c] w fun e w' => e = .returned (.tuple #[.agg (lab ⟨0, at' s 4, at' s 5, 0, numB ((s.drop 8).take 8), numB ((s.drop 6).take 2)⟩), .int .i64 0]) ∧ Below w.heap.size w w' := by
  have hcap := h.1.lenCap
  have hlen := h.len
  have hb256 := h.2
  have hs6 : ∀ W, (Instr.sliceAt 22 (.slice A 256 c) (some (.int .i64 6)) (some (.int .i64 8)) none).run Tryz.prog W = .ok (.slice (dropA A c 6) 2 (c - 6)) W := fun W => sl_mid W A 256 c 6 8 (by decide) (by omega)
  have hs8 : ∀ W, (Instr.sliceAt 22 (.slice A 256 c) (some (.int .i64 8)) (some (.int .i64 16)) none).run Tryz.prog W = .ok (.slice (dropA A c 8) 8 (c - 8)) W := fun W => sl_mid W A 256 c 8 16 (by decide) (by omega)
  have hs16 : ∀ W, (Instr.sliceAt 22 (.slice A 256 c) none (some (.int .i64 16)) none).run Tryz.prog W = .ok (.slice A 16 c) W := fun W => sl_upto W A 256 c 16 (by omega)
  have i6 := (isB_drop h (m := 6) (by decide)).take (m := 2) (by decide)
  have i8 := (isB_drop h (m := 8) (by decide)).take (m := 8) (by decide)
  have i16 := h.take (m := 16) (by decide)
  have hhd := head_split h.2 hlen
  obtain ⟨x, rfl, hxb, hxc⟩ := h.cell (by decide)
  have X4 : Hid (w.cell? ⟨x.block, x.off + 4, none⟩ = some (.int .u8 (at' s 4 : Nat))) := Lib.hid (hxc 4 (by decide))
  have X5 : Hid (w.cell? ⟨x.block, x.off + 5, none⟩ = some (.int .u8 (at' s 5 : Nat))) := Lib.hid (hxc 5 (by decide))
  have n2 := numB_lt2 i6.2 i6.len
  have n8 := numB_lt8 i8.2 i8.len
  have b4 : at' s 4 < 256 := h.2.at' 4
  have b5 : at' s 5 < 256 := h.2.at' 5
  have HG6 := Lib.hid (fun W (hh : IsB W (dropA (some x) c 6) 2 (c - 6) ((s.drop 6).take 2)) => number_any _ 2 (c - 6) _ W hh (by decide) (by decide))
  have HG8 := Lib.hid (fun W (hh : IsB W (dropA (some x) c 8) 8 (c - 8) ((s.drop 8).take 8)) => number_any _ 8 (c - 8) _ W hh (by decide) (by decide))
  have hki := fun W => rkind_any (at' s 4) W
  have hheads := fun W => rheadOf_any ⟨0, at' s 4, at' s 5, 0, numB ((s.drop 8).take 8), numB ((s.drop 6).take 2)⟩ W ⟨by show 0 < 4294967296; decide, b4, b5, by show 0 < 4294967296; decide, n8, n2⟩
  have hne : toldOk s := hok
  rw [decide_eq_true hok.2] at hki
  have hde : decide (s.take 16 = headL ⟨0, at' s 4, at' s 5, 0, numB ((s.drop 8).take 8), numB ((s.drop 6).take 2)⟩) = true := decide_eq_true (by rw [hhd]; exact hok.1)
  clear hok hhd hne
  generalize hHL : headL ⟨0, at' s 4, at' s 5, 0, numB ((s.drop 8).take 8), numB ((s.drop 6).take 2)⟩ = HL at *
  clear hHL
  generalize (s.drop 6).take 2 = s6 at *
  generalize (s.drop 8).take 8 = s8 at *
  generalize numB s6 = gn at *
  generalize numB s8 = cm at *
  generalize at' s 4 = a4 at *
  generalize at' s 5 = a5 at *
  generalize s.take 16 = H16 at *
  have hw : IntKind.u16.wrap (gn : Int) = (gn : Int) := by
    show (gn : Int) % 65536 = (gn : Int)
    omega
  generalize dropA (some x) c 6 = D6 at *
  generalize dropA (some x) c 8 = D8 at *
  have I6 := Lib.hid i6
  have I8 := Lib.hid i8
  have I16' := Lib.hid i16
  have HKI := Lib.hid hki
  have HHD : Hid (∀ W, Calls Tryz.prog 189 #[.agg #[.int .u32 0, .int .u8 (a4 : Int), .int .u8 (a5 : Int), .int .u32 0, .int .u64 (cm : Int), .int .u16 (gn : Int)]] W fun e w' => ∃ v, e = .returned v ∧ OwB w' W.heap.size v HL ∧ Below W.heap.size W w') := Lib.hid hheads
  have HS16 := Lib.hid hs16
  have HXB' := Lib.hid hxb
  have R0 : Hid (LbR (w.alloc (.cells #[.int .u32 0, .int .u8 0, .int .u8 0, .int .u32 0, .int .u64 0, .int .u16 0] 149)) w.heap.size #[.int .u32 0, .int .u8 0, .int .u8 0, .int .u32 0, .int .u64 0, .int .u16 0]) := Lib.hid (heap_alloc_new w _)
  have B0 : Hid (Below w.heap.size w (w.alloc (.cells #[.int .u32 0, .int .u8 0, .int .u8 0, .int .u32 0, .int .u64 0, .int .u16 0] 149))) := Lib.hid ((Below.refl _ _).alloc (Nat.le_refl _) _)
  have I60 := Lib.hid (I6.out.ab B0.out)
  have I80 := Lib.hid (I8.out.ab B0.out)
  have I160 := Lib.hid (I16'.out.ab B0.out)
  have X40 : Hid ((w.alloc (.cells #[.int .u32 0, .int .u8 0, .int .u8 0, .int .u32 0, .int .u64 0, .int .u16 0] 149)).cell? ⟨x.block, x.off + 4, none⟩ = some (.int .u8 (a4 : Int))) := Lib.hid ((B0.out.cell (p := ⟨x.block, x.off + 4, none⟩) hxb).trans X4.out)
  have X50 : Hid ((w.alloc (.cells #[.int .u32 0, .int .u8 0, .int .u8 0, .int .u32 0, .int .u64 0, .int .u16 0] 149)).cell? ⟨x.block, x.off + 5, none⟩ = some (.int .u8 (a5 : Int))) := Lib.hid ((B0.out.cell (p := ⟨x.block, x.off + 5, none⟩) hxb).trans X5.out)
  have HXB : Hid (x.block < (w.alloc (.cells #[.int .u32 0, .int .u8 0, .int .u8 0, .int .u32 0, .int .u64 0, .int .u16 0] 149)).heap.size) := Lib.hid (Nat.lt_of_lt_of_le hxb B0.out.size)
  clear h hlen hb256 i6 i8 i16 hxc hxb hki hheads n2 n8 b4 b5 hs16 X4 X5 I6 I8 I16' hcap
  go_enter Tryz.func133, Tryz.ntmps133
  go_wp2_with fail
  generalize w.alloc (.cells #[.int .u32 0, .int .u8 0, .int .u8 0, .int .u32 0, .int .u64 0, .int .u16 0] 149) = W0 at *
  refine wp_wide3 [⟨9, IsR (.slice (some x) 256 c), [], false⟩, ⟨10, IsR (.pointer (some ⟨x.block, x.off + 4, none⟩)), [0], false⟩, ⟨11, IsR (.int .u8 (a4 : Int)), [1], false⟩, ⟨12, IsR (.slice (some x) 256 c), [], false⟩, ⟨13, IsR (.pointer (some ⟨x.block, x.off + 5, none⟩)), [3], false⟩, ⟨14, IsR (.int .u8 (a5 : Int)), [4], false⟩, ⟨15, IsR (.agg #[.int .u32 0, .int .u8 (a4 : Int), .int .u8 (a5 : Int), .int .u32 0, .int .u64 0, .int .u16 0]), [2, 5], false⟩, ⟨4, NewL W0, [], false⟩] (by kernel_rfl) (by kernel_rfl) rfl rfl rfl ⟨?_, ?_, ?_, ?_, ?_, ?_, ?_, ?_, trivial⟩ ?_
  · refine ⟨rfl, IsR.mono _, fun a W hA hb hd => takes_plain rfl (yields_value _ ?_ rfl)⟩
    have h0 : a.tmps[0]?.getD undef = .slice (some x) 256 c := (eval_get a 0).trans ((hA.eval (by simp)).trans rfl)
    go_simp
  · refine ⟨rfl, IsR.mono _, fun a W hA hb hd => takes_plain rfl (yields_value _ ?_ rfl)⟩
    have h9 : a.tmps[9]?.getD undef = .slice (some x) 256 c := (eval_get a 9).trans (hd 0 (by simp) _ rfl)
    go_simp
  · refine ⟨rfl, IsR.mono _, fun a W hA hb hd => takes_plain rfl (yields_value _ ?_ rfl)⟩
    have h10 : a.tmps[10]?.getD undef = .pointer (some ⟨x.block, x.off + 4, none⟩) := (eval_get a 10).trans (hd 1 (by simp) _ rfl)
    have hc : W.cell? ⟨x.block, x.off + 4, none⟩ = some (.int .u8 (a4 : Int)) := (hb.cell (p := ⟨x.block, x.off + 4, none⟩) HXB.out).trans X40.out
    go_simp
  · refine ⟨rfl, IsR.mono _, fun a W hA hb hd => takes_plain rfl (yields_value _ ?_ rfl)⟩
    have h0 : a.tmps[0]?.getD undef = .slice (some x) 256 c := (eval_get a 0).trans ((hA.eval (by simp)).trans rfl)
    go_simp
  · refine ⟨rfl, IsR.mono _, fun a W hA hb hd => takes_plain rfl (yields_value _ ?_ rfl)⟩
    have h12 : a.tmps[12]?.getD undef = .slice (some x) 256 c := (eval_get a 12).trans (hd 3 (by simp) _ rfl)
    go_simp
  · refine ⟨rfl, IsR.mono _, fun a W hA hb hd => takes_plain rfl (yields_value _ ?_ rfl)⟩
    have h13 : a.tmps[13]?.getD undef = .pointer (some ⟨x.block, x.off + 5, none⟩) := (eval_get a 13).trans (hd 4 (by simp) _ rfl)
    have hc : W.cell? ⟨x.block, x.off + 5, none⟩ = some (.int .u8 (a5 : Int)) := (hb.cell (p := ⟨x.block, x.off + 5, none⟩) HXB.out).trans X50.out
    go_simp
  · refine ⟨rfl, IsR.mono _, fun a W hA hb hd => takes_plain rfl (yields_value _ ?_ rfl)⟩
    have h11 : a.tmps[11]?.getD undef = .int .u8 (a4 : Int) := (eval_get a 11).trans (hd 2 (by simp) _ rfl)
    have h14 : a.tmps[14]?.getD undef = .int .u8 (a5 : Int) := (eval_get a 14).trans (hd 5 (by simp) _ rfl)
    go_simp
  · refine ⟨rfl, NewL.mono _, fun a W hA hb hd => takes_plain rfl ?_⟩
    refine yields_value2 (.pointer (some ⟨W.heap.size, 0, none⟩)) (W.alloc (.cells #[.int .u32 0, .int .u8 0, .int .u8 0, .int .u32 0, .int .u64 0, .int .u16 0] 149)) ?_ ⟨W.heap.size, rfl, heap_alloc_new W _, hb.size⟩ ((Below.refl _ _).alloc (Nat.le_refl _) _)
    go_simp
  intro vs W1 hR hF hb
  have e15 : vs 15 = .agg #[.int .u32 0, .int .u8 (a4 : Int), .int .u8 (a5 : Int), .int .u32 0, .int .u64 0, .int .u16 0] := hR 6 _ rfl
  obtain ⟨g, e4, hL, hg0⟩ : NewL W0 (vs 4) W1 := hR 7 _ rfl
  simp only [List.map_cons, List.map_nil, List.foldl_cons, List.foldl_nil, List.length_cons, List.length_nil, List.drop_succ_cons, List.drop_zero, Act.put, List.setIfInBounds_toArray, List.set_cons_zero, List.set_cons_succ, e15, e4]
  generalize vs 9 = q9 at *
  generalize vs 10 = q10 at *
  generalize vs 11 = q11 at *
  generalize vs 12 = q12 at *
  generalize vs 13 = q13 at *
  generalize vs 14 = q14 at *
  have R1 := Lib.hid (R0.out.ab hb)
  have L1 := Lib.hid hL
  have HGB : Hid (w.heap.size < g) := Lib.hid (by have := R0.out.lt; omega)
  have HXG : Hid (x.block < g) := Lib.hid (by have := HXB.out; omega)
  have HB1 := Lib.hid hb
  have HG0 := Lib.hid hg0
  clear hR hF hb e15 e4 hL hg0
  refine wpList_store6 rfl (.tmp 4) (.tmp 15) rfl g rfl #[.int .u32 0, .int .u8 (a4 : Int), .int .u8 (a5 : Int), .int .u32 0, .int .u64 0, .int .u16 0] rfl rfl (by simp [Value.oneCell']) (cs := #[.int .u32 0, .int .u8 0, .int .u8 0, .int .u32 0, .int .u64 0, .int .u16 0]) L1.out rfl ?_
  intro w2 hw2
  have L2 : Hid (LbR w2 g #[.int .u32 0, .int .u8 (a4 : Int), .int .u8 (a5 : Int), .int .u32 0, .int .u64 0, .int .u16 0]) := Lib.hid (by rw [hw2]; exact L1.out.row _)
  have R2 : Hid (LbR w2 w.heap.size #[.int .u32 0, .int .u8 0, .int .u8 0, .int .u32 0, .int .u64 0, .int .u16 0]) := Lib.hid (by rw [hw2]; exact R1.out.rowFar (by have := HGB.out; omega) _)
  have C2 : Hid (Below W0.heap.size W0 w2) := Lib.hid (by rw [hw2]; exact Below.row HB1.out HG0.out _)
  clear hw2 L1 R1 HB1 R0
  have L3 : Hid (LbR (w2.setCell ⟨g, 5, none⟩ (.int .u16 (gn : Int))) g #[.int .u32 0, .int .u8 (a4 : Int), .int .u8 (a5 : Int), .int .u32 0, .int .u64 0, .int .u16 (gn : Int)]) := Lib.hid (L2.out.set 5 _)
  have R3 : Hid (LbR (w2.setCell ⟨g, 5, none⟩ (.int .u16 (gn : Int))) w.heap.size #[.int .u32 0, .int .u8 0, .int .u8 0, .int .u32 0, .int .u64 0, .int .u16 0]) := Lib.hid (R2.out.far (by have := HGB.out; omega) _)
  have C3 : Hid (Below W0.heap.size W0 (w2.setCell ⟨g, 5, none⟩ (.int .u16 (gn : Int)))) := Lib.hid (C2.out.setCell (p := ⟨g, 5, none⟩) HG0.out _)
  have f5 := L2.out.free 5
  obtain ⟨q0, q1, q2, q3, q4, q5⟩ := L2.out.cells
  go_wp2_with fail
  refine (HG6.out w2 (I60.out.ab C2.out)).mono ?_
  rintro e w' ⟨rfl, rfl⟩
  go_wp2_with fail
  generalize w2.setCell ⟨g, 5, none⟩ (.int .u16 (gn : Int)) = w3 at *
  clear f5 q0 q1 q2 q3 q4 q5 L2 R2 C2
  have L4 : Hid (LbR (w3.setCell ⟨g, 4, none⟩ (.int .u64 (cm : Int))) g #[.int .u32 0, .int .u8 (a4 : Int), .int .u8 (a5 : Int), .int .u32 0, .int .u64 (cm : Int), .int .u16 (gn : Int)]) := Lib.hid (L3.out.set 4 _)
  have R4 : Hid (LbR (w3.setCell ⟨g, 4, none⟩ (.int .u64 (cm : Int))) w.heap.size #[.int .u32 0, .int .u8 0, .int .u8 0, .int .u32 0, .int .u64 0, .int .u16 0]) := Lib.hid (R3.out.far (by have := HGB.out; omega) _)
  have C4 : Hid (Below W0.heap.size W0 (w3.setCell ⟨g, 4, none⟩ (.int .u64 (cm : Int)))) := Lib.hid (C3.out.setCell (p := ⟨g, 4, none⟩) HG0.out _)
  have f4 := L3.out.free 4
  obtain ⟨q0, q1, q2, q3, q4, q5⟩ := L3.out.cells
  refine (HG8.out w3 (I80.out.ab C3.out)).mono ?_
  rintro e w' ⟨rfl, rfl⟩
  go_wp2_with fail
  generalize w3.setCell ⟨g, 4, none⟩ (.int .u64 (cm : Int)) = w4 at *
  clear f4 q0 q1 q2 q3 q4 q5 L3 R3 C3
  have Y4 : Hid (w4.cell? ⟨x.block, x.off + 4, none⟩ = some (.int .u8 (a4 : Int))) := Lib.hid ((C4.out.cell (p := ⟨x.block, x.off + 4, none⟩) HXB.out).trans X40.out)
  have HX4 : Hid (x.block < w4.heap.size) := Lib.hid (Nat.lt_of_lt_of_le HXB.out C4.out.size)
  have I16 := Lib.hid (I160.out.ab C4.out)
  have B4 := Lib.hid (below_tr B0.out C4.out B0.out.size)
  clear C4 B0 I60 I80 I160 X40 X50
  · skip
    refine wp_wide3 [⟨27, IsR (.slice (some x) 256 c), [], false⟩, ⟨28, IsR (.pointer (some ⟨x.block, x.off + 4, none⟩)), [0], false⟩, ⟨29, IsR (.int .u8 (a4 : Int)), [1], false⟩, ⟨30, IsR (.bool true), [2], false⟩, ⟨31, IsR (.bool false), [3], false⟩, ⟨32, IsR (.bool false), [4], false⟩, ⟨33, IsR (.slice (some x) 256 c), [5], false⟩, ⟨34, IsR (.slice (some x) 16 c), [5, 6], false⟩, ⟨35, IsR (.agg #[.int .u32 0, .int .u8 (a4 : Int), .int .u8 (a5 : Int), .int .u32 0, .int .u64 (cm : Int), .int .u16 (gn : Int)]), [5], false⟩, ⟨36, OwR w4.heap.size HL, [5, 8], false⟩, ⟨37, IsR (.bool true), [5, 7, 9], false⟩, ⟨38, IsR (.bool false), [5, 10], false⟩] (by kernel_rfl) (by kernel_rfl) rfl rfl rfl ⟨?_, ?_, ?_, ?_, ?_, ?_, ?_, ?_, ?_, ?_, ?_, ?_, trivial⟩ ?_
    · refine ⟨rfl, IsR.mono _, fun a W hA hb hd => takes_plain rfl (yields_value _ ?_ rfl)⟩
      have h0 : a.tmps[0]?.getD undef = .slice (some x) 256 c := (eval_get a 0).trans ((hA.eval (by simp)).trans rfl)
      go_simp
    · refine ⟨rfl, IsR.mono _, fun a W hA hb hd => takes_plain rfl (yields_value _ ?_ rfl)⟩
      have h27 : a.tmps[27]?.getD undef = .slice (some x) 256 c := (eval_get a 27).trans (hd 0 (by simp) _ rfl)
      go_simp
    · refine ⟨rfl, IsR.mono _, fun a W hA hb hd => takes_plain rfl (yields_value _ ?_ rfl)⟩
      have h28 : a.tmps[28]?.getD undef = .pointer (some ⟨x.block, x.off + 4, none⟩) := (eval_get a 28).trans (hd 1 (by simp) _ rfl)
      have hc : W.cell? ⟨x.block, x.off + 4, none⟩ = some (.int .u8 (a4 : Int)) := (hb.cell (p := ⟨x.block, x.off + 4, none⟩) HX4.out).trans Y4.out
      go_simp
    · refine ⟨rfl, IsR.mono _, fun a W hA hb hd => takes_plain rfl ?_⟩
      have h29 : a.tmps[29]?.getD undef = .int .u8 (a4 : Int) := (eval_get a 29).trans (hd 2 (by simp) _ rfl)
      refine yields_call 187 #[.int .u8 (a4 : Int)] (by go_simp) ((HKI.out W).mono ?_)
      rintro e W' ⟨rfl, rfl⟩
      exact ⟨_, rfl, rfl, Below.refl _ _⟩
    · refine ⟨rfl, IsR.mono _, fun a W hA hb hd => takes_plain rfl (yields_value _ ?_ rfl)⟩
      have h30 : a.tmps[30]?.getD undef = .bool true := (eval_get a 30).trans (hd 3 (by simp) _ rfl)
      go_simp
    · refine ⟨rfl, IsR.mono _, fun a W hA hb hd => takes_plain rfl (yields_value _ ?_ rfl)⟩
      have h31 : a.tmps[31]?.getD undef = .bool false := (eval_get a 31).trans (hd 4 (by simp) _ rfl)
      go_simp
    · refine ⟨rfl, IsR.mono _, fun a W hA hb hd => takes_on (i := 5) (d := 32) (b := false) rfl rfl rfl (hd 5 (by simp) _ rfl) (yields_value _ ?_ rfl)⟩
      have h0 : a.tmps[0]?.getD undef = .slice (some x) 256 c := (eval_get a 0).trans ((hA.eval (by simp)).trans rfl)
      go_simp
    · refine ⟨rfl, IsR.mono _, fun a W hA hb hd => takes_on (i := 5) (d := 32) (b := false) rfl rfl rfl (hd 5 (by simp) _ rfl) (yields_value _ ?_ rfl)⟩
      have h33 : a.tmps[33]?.getD undef = .slice (some x) 256 c := (eval_get a 33).trans (hd 6 (by simp) _ rfl)
      have hs := HS16.out W
      go_simp
    · refine ⟨rfl, IsR.mono _, fun a W hA hb hd => takes_on (i := 5) (d := 32) (b := false) rfl rfl rfl (hd 5 (by simp) _ rfl) (yields_value _ ?_ rfl)⟩
      have h4 : a.tmps[4]?.getD undef = .pointer (some ⟨g, 0, none⟩) := (eval_get a 4).trans ((hA.eval (by simp)).trans rfl)
      obtain ⟨q0, q1, q2, q3, q4, q5⟩ := (L4.out.ab hb).cells
      go_simp
    · refine ⟨rfl, OwR.mono _ _, fun a W hA hb hd => takes_on (i := 5) (d := 32) (b := false) rfl rfl rfl (hd 5 (by simp) _ rfl) ?_⟩
      have h35 : a.tmps[35]?.getD undef = .agg #[.int .u32 0, .int .u8 (a4 : Int), .int .u8 (a5 : Int), .int .u32 0, .int .u64 (cm : Int), .int .u16 (gn : Int)] := (eval_get a 35).trans (hd 8 (by simp) _ rfl)
      refine yields_call 189 #[.agg #[.int .u32 0, .int .u8 (a4 : Int), .int .u8 (a5 : Int), .int .u32 0, .int .u64 (cm : Int), .int .u16 (gn : Int)]] (by go_simp) ((HHD.out W).mono ?_)
      rintro e W' ⟨v, rfl, hv, hb'⟩
      exact ⟨v, rfl, hv.lower hb.size, hb'⟩
    · refine ⟨rfl, IsR.mono _, fun a W hA hb hd => ?_⟩
      have h34 : a.tmps[34]?.getD undef = .slice (some x) 16 c := (eval_get a 34).trans (hd 7 (by simp) _ rfl)
      have oh : OwB W w4.heap.size (a.eval (.tmp 36)) HL := hd 9 (by simp) _ rfl
      have eh := eval_get a 36
      generalize a.eval (.tmp 36) = v0 at *
      obtain ⟨A0, c0, rfl, -, -⟩ := oh.shape
      have i0 := oh.isB rfl
      refine takes_on (i := 5) (d := 32) (b := false) rfl rfl rfl (hd 5 (by simp) _ rfl) (yields_call 188 #[.slice (some x) 16 c, .slice A0 HL.length c0] (by go_simp) ((same_any _ _ 16 HL.length c c0 H16 HL W (I16.out.ab hb) i0).mono ?_))
      rintro e W' ⟨rfl, rfl⟩
      exact ⟨_, rfl, by rw [hde]; rfl, Below.refl _ _⟩
    · refine ⟨rfl, IsR.mono _, fun a W hA hb hd => takes_on (i := 5) (d := 32) (b := false) rfl rfl rfl (hd 5 (by simp) _ rfl) (yields_value _ ?_ rfl)⟩
      have h37 : a.tmps[37]?.getD undef = .bool true := (eval_get a 37).trans (hd 10 (by simp) _ rfl)
      go_simp
    intro vs w5 hR hF hb
    have e32 : vs 32 = .bool false := hR 5 _ rfl
    have e38 : vs 38 = .bool false := hR 11 _ rfl
    simp only [List.map_cons, List.map_nil, List.foldl_cons, List.foldl_nil, List.length_cons, List.length_nil, List.drop_succ_cons, List.drop_zero, Act.put, List.setIfInBounds_toArray, List.set_cons_zero, List.set_cons_succ, e32, e38]
    generalize vs 27 = q27 at *
    generalize vs 28 = q28 at *
    generalize vs 29 = q29 at *
    generalize vs 30 = q30 at *
    generalize vs 31 = q31 at *
    generalize vs 33 = q33 at *
    generalize vs 34 = q34 at *
    generalize vs 35 = q35 at *
    generalize vs 36 = q36 at *
    generalize vs 37 = q37 at *
    have L5 := Lib.hid (L4.out.ab hb)
    have R5 := Lib.hid (R4.out.ab hb)
    have B5 := Lib.hid (below_tr B4.out hb B4.out.size)
    clear hR hF hb e32 e38 L4 R4 B4
    obtain ⟨z0, z1, z2, z3, z4, z5⟩ := L5.out.cells
    go_wp2_with ((with_reducible refine wpList_store6 (o := ⟨none, .store _ (.tmp 2) (.tmp 41), _, _, _, _⟩) rfl (.tmp 2) (.tmp 41) ?_ w.heap.size ?_ #[.int .u32 0, .int .u8 (a4 : Int), .int .u8 (a5 : Int), .int .u32 0, .int .u64 (cm : Int), .int .u16 (gn : Int)] ?_ ?_ ?_ (cs := #[.int .u32 0, .int .u8 0, .int .u8 0, .int .u32 0, .int .u64 0, .int .u16 0]) ?_ ?_ ?_)
                 · rfl
                 · rfl
                 · rfl
                 · rfl
                 · (simp [Value.oneCell'])
                 · exact R5.out
                 · rfl
                 intro w6 hw6
                 have R6 : LbR w6 w.heap.size #[.int .u32 0, .int .u8 (a4 : Int), .int .u8 (a5 : Int), .int .u32 0, .int .u64 (cm : Int), .int .u16 (gn : Int)] := by rw [hw6]; exact R5.out.row _
                 have B6 : Hid (Below w.heap.size w w6) := Lib.hid (by rw [hw6]; exact Below.row B5.out (Nat.le_refl _) _)
                 obtain ⟨p0, p1, p2, p3, p4, p5⟩ := R6.cells
                 clear hw6)
    exact bodyPost_ret (v := .tuple #[.agg #[.int .u32 0, .int .u8 (a4 : Int), .int .u8 (a5 : Int), .int .u32 0, .int .u64 (cm : Int), .int .u16 (gn : Int)], .int .i64 0]) (by simp [results, Tryz.results133, go_sem, p0, p1, p2, p3, p4, p5]) rfl ⟨rfl, B6.out⟩
set_option maxRecDepth 100000 in
set_option maxHeartbeats 4000000 in
theorem rtold_no (A : Option Addr) (c : Nat) (s : List Nat) (w : World) (h : IsB w A 256 c s) (hok : ¬ s.take 4 = magL ∧ 1 ≤ at' s 4 ∧ at' s 4 ≤ 4) :
    Calls Tryz.prog 133 #[.slice A 256 c] w fun e w' => e = .returned (.tuple #[.agg (lab ⟨0, 0, 0, 0, 0, 0⟩), .int .i64 100]) ∧ Below w.heap.size w w' := by
  have hcap := h.1.lenCap
  have hlen := h.len
  have hb256 := h.2
  have hs6 : ∀ W, (Instr.sliceAt 22 (.slice A 256 c) (some (.int .i64 6)) (some (.int .i64 8)) none).run Tryz.prog W = .ok (.slice (dropA A c 6) 2 (c - 6)) W := fun W => sl_mid W A 256 c 6 8 (by decide) (by omega)
  have hs8 : ∀ W, (Instr.sliceAt 22 (.slice A 256 c) (some (.int .i64 8)) (some (.int .i64 16)) none).run Tryz.prog W = .ok (.slice (dropA A c 8) 8 (c - 8)) W := fun W => sl_mid W A 256 c 8 16 (by decide) (by omega)
  have hs16 : ∀ W, (Instr.sliceAt 22 (.slice A 256 c) none (some (.int .i64 16)) none).run Tryz.prog W = .ok (.slice A 16 c) W := fun W => sl_upto W A 256 c 16 (by omega)
  have i6 := (isB_drop h (m := 6) (by decide)).take (m := 2) (by decide)
  have i8 := (isB_drop h (m := 8) (by decide)).take (m := 8) (by decide)
  have i16 := h.take (m := 16) (by decide)
  have hhd := head_split h.2 hlen
  obtain ⟨x, rfl, hxb, hxc⟩ := h.cell (by decide)
  have X4 : Hid (w.cell? ⟨x.block, x.off + 4, none⟩ = some (.int .u8 (at' s 4 : Nat))) := Lib.hid (hxc 4 (by decide))
  have X5 : Hid (w.cell? ⟨x.block, x.off + 5, none⟩ = some (.int .u8 (at' s 5 : Nat))) := Lib.hid (hxc 5 (by decide))
  have n2 := numB_lt2 i6.2 i6.len
  have n8 := numB_lt8 i8.2 i8.len
  have b4 : at' s 4 < 256 := h.2.at' 4
  have b5 : at' s 5 < 256 := h.2.at' 5
  have HG6 := Lib.hid (fun W (hh : IsB W (dropA (some x) c 6) 2 (c - 6) ((s.drop 6).take 2)) => number_any _ 2 (c - 6) _ W hh (by decide) (by decide))
  have HG8 := Lib.hid (fun W (hh : IsB W (dropA (some x) c 8) 8 (c - 8) ((s.drop 8).take 8)) => number_any _ 8 (c - 8) _ W hh (by decide) (by decide))
  have hki := fun W => rkind_any (at' s 4) W
  have hheads := fun W => rheadOf_any ⟨0, at' s 4, at' s 5, 0, numB ((s.drop 8).take 8), numB ((s.drop 6).take 2)⟩ W ⟨by show 0 < 4294967296; decide, b4, b5, by show 0 < 4294967296; decide, n8, n2⟩

  rw [decide_eq_true hok.2] at hki
  have hde : decide (s.take 16 = headL ⟨0, at' s 4, at' s 5, 0, numB ((s.drop 8).take 8), numB ((s.drop 6).take 2)⟩) = false := decide_eq_false (by rw [hhd]; exact hok.1)
  clear hok hhd
  generalize hHL : headL ⟨0, at' s 4, at' s 5, 0, numB ((s.drop 8).take 8), numB ((s.drop 6).take 2)⟩ = HL at *
  clear hHL
  generalize (s.drop 6).take 2 = s6 at *
  generalize (s.drop 8).take 8 = s8 at *
  generalize numB s6 = gn at *
  generalize numB s8 = cm at *
  generalize at' s 4 = a4 at *
  generalize at' s 5 = a5 at *
  generalize s.take 16 = H16 at *
  have hw : IntKind.u16.wrap (gn : Int) = (gn : Int) := by
    show (gn : Int) % 65536 = (gn : Int)
    omega
  generalize dropA (some x) c 6 = D6 at *
  generalize dropA (some x) c 8 = D8 at *
  have I6 := Lib.hid i6
  have I8 := Lib.hid i8
  have I16' := Lib.hid i16
  have HKI := Lib.hid hki
  have HHD : Hid (∀ W, Calls Tryz.prog 189 #[.agg #[.int .u32 0, .int .u8 (a4 : Int), .int .u8 (a5 : Int), .int .u32 0, .int .u64 (cm : Int), .int .u16 (gn : Int)]] W fun e w' => ∃ v, e = .returned v ∧ OwB w' W.heap.size v HL ∧ Below W.heap.size W w') := Lib.hid hheads
  have HS16 := Lib.hid hs16
  have HXB' := Lib.hid hxb
  have R0 : Hid (LbR (w.alloc (.cells #[.int .u32 0, .int .u8 0, .int .u8 0, .int .u32 0, .int .u64 0, .int .u16 0] 149)) w.heap.size #[.int .u32 0, .int .u8 0, .int .u8 0, .int .u32 0, .int .u64 0, .int .u16 0]) := Lib.hid (heap_alloc_new w _)
  have B0 : Hid (Below w.heap.size w (w.alloc (.cells #[.int .u32 0, .int .u8 0, .int .u8 0, .int .u32 0, .int .u64 0, .int .u16 0] 149))) := Lib.hid ((Below.refl _ _).alloc (Nat.le_refl _) _)
  have I60 := Lib.hid (I6.out.ab B0.out)
  have I80 := Lib.hid (I8.out.ab B0.out)
  have I160 := Lib.hid (I16'.out.ab B0.out)
  have X40 : Hid ((w.alloc (.cells #[.int .u32 0, .int .u8 0, .int .u8 0, .int .u32 0, .int .u64 0, .int .u16 0] 149)).cell? ⟨x.block, x.off + 4, none⟩ = some (.int .u8 (a4 : Int))) := Lib.hid ((B0.out.cell (p := ⟨x.block, x.off + 4, none⟩) hxb).trans X4.out)
  have X50 : Hid ((w.alloc (.cells #[.int .u32 0, .int .u8 0, .int .u8 0, .int .u32 0, .int .u64 0, .int .u16 0] 149)).cell? ⟨x.block, x.off + 5, none⟩ = some (.int .u8 (a5 : Int))) := Lib.hid ((B0.out.cell (p := ⟨x.block, x.off + 5, none⟩) hxb).trans X5.out)
  have HXB : Hid (x.block < (w.alloc (.cells #[.int .u32 0, .int .u8 0, .int .u8 0, .int .u32 0, .int .u64 0, .int .u16 0] 149)).heap.size) := Lib.hid (Nat.lt_of_lt_of_le hxb B0.out.size)
  clear h hlen hb256 i6 i8 i16 hxc hxb hki hheads n2 n8 b4 b5 hs16 X4 X5 I6 I8 I16' hcap
  go_enter Tryz.func133, Tryz.ntmps133
  go_wp2_with fail
  generalize w.alloc (.cells #[.int .u32 0, .int .u8 0, .int .u8 0, .int .u32 0, .int .u64 0, .int .u16 0] 149) = W0 at *
  refine wp_wide3 [⟨9, IsR (.slice (some x) 256 c), [], false⟩, ⟨10, IsR (.pointer (some ⟨x.block, x.off + 4, none⟩)), [0], false⟩, ⟨11, IsR (.int .u8 (a4 : Int)), [1], false⟩, ⟨12, IsR (.slice (some x) 256 c), [], false⟩, ⟨13, IsR (.pointer (some ⟨x.block, x.off + 5, none⟩)), [3], false⟩, ⟨14, IsR (.int .u8 (a5 : Int)), [4], false⟩, ⟨15, IsR (.agg #[.int .u32 0, .int .u8 (a4 : Int), .int .u8 (a5 : Int), .int .u32 0, .int .u64 0, .int .u16 0]), [2, 5], false⟩, ⟨4, NewL W0, [], false⟩] (by kernel_rfl) (by kernel_rfl) rfl rfl rfl ⟨?_, ?_, ?_, ?_, ?_, ?_, ?_, ?_, trivial⟩ ?_
  · refine ⟨rfl, IsR.mono _, fun a W hA hb hd => takes_plain rfl (yields_value _ ?_ rfl)⟩
    have h0 : a.tmps[0]?.getD undef = .slice (some x) 256 c := (eval_get a 0).trans ((hA.eval (by simp)).trans rfl)
    go_simp
  · refine ⟨rfl, IsR.mono _, fun a W hA hb hd => takes_plain rfl (yields_value _ ?_ rfl)⟩
    have h9 : a.tmps[9]?.getD undef = .slice (some x) 256 c := (eval_get a 9).trans (hd 0 (by simp) _ rfl)
    go_simp
  · refine ⟨rfl, IsR.mono _, fun a W hA hb hd => takes_plain rfl (yields_value _ ?_ rfl)⟩
    have h10 : a.tmps[10]?.getD undef = .pointer (some ⟨x.block, x.off + 4, none⟩) := (eval_get a 10).trans (hd 1 (by simp) _ rfl)
    have hc : W.cell? ⟨x.block, x.off + 4, none⟩ = some (.int .u8 (a4 : Int)) := (hb.cell (p := ⟨x.block, x.off + 4, none⟩) HXB.out).trans X40.out
    go_simp
  · refine ⟨rfl, IsR.mono _, fun a W hA hb hd => takes_plain rfl (yields_value _ ?_ rfl)⟩
    have h0 : a.tmps[0]?.getD undef = .slice (some x) 256 c := (eval_get a 0).trans ((hA.eval (by simp)).trans rfl)
    go_simp
  · refine ⟨rfl, IsR.mono _, fun a W hA hb hd => takes_plain rfl (yields_value _ ?_ rfl)⟩
    have h12 : a.tmps[12]?.getD undef = .slice (some x) 256 c := (eval_get a 12).trans (hd 3 (by simp) _ rfl)
    go_simp
  · refine ⟨rfl, IsR.mono _, fun a W hA hb hd => takes_plain rfl (yields_value _ ?_ rfl)⟩
    have h13 : a.tmps[13]?.getD undef = .pointer (some ⟨x.block, x.off + 5, none⟩) := (eval_get a 13).trans (hd 4 (by simp) _ rfl)
    have hc : W.cell? ⟨x.block, x.off + 5, none⟩ = some (.int .u8 (a5 : Int)) := (hb.cell (p := ⟨x.block, x.off + 5, none⟩) HXB.out).trans X50.out
    go_simp
  · refine ⟨rfl, IsR.mono _, fun a W hA hb hd => takes_plain rfl (yields_value _ ?_ rfl)⟩
    have h11 : a.tmps[11]?.getD undef = .int .u8 (a4 : Int) := (eval_get a 11).trans (hd 2 (by simp) _ rfl)
    have h14 : a.tmps[14]?.getD undef = .int .u8 (a5 : Int) := (eval_get a 14).trans (hd 5 (by simp) _ rfl)
    go_simp
  · refine ⟨rfl, NewL.mono _, fun a W hA hb hd => takes_plain rfl ?_⟩
    refine yields_value2 (.pointer (some ⟨W.heap.size, 0, none⟩)) (W.alloc (.cells #[.int .u32 0, .int .u8 0, .int .u8 0, .int .u32 0, .int .u64 0, .int .u16 0] 149)) ?_ ⟨W.heap.size, rfl, heap_alloc_new W _, hb.size⟩ ((Below.refl _ _).alloc (Nat.le_refl _) _)
    go_simp
  intro vs W1 hR hF hb
  have e15 : vs 15 = .agg #[.int .u32 0, .int .u8 (a4 : Int), .int .u8 (a5 : Int), .int .u32 0, .int .u64 0, .int .u16 0] := hR 6 _ rfl
  obtain ⟨g, e4, hL, hg0⟩ : NewL W0 (vs 4) W1 := hR 7 _ rfl
  simp only [List.map_cons, List.map_nil, List.foldl_cons, List.foldl_nil, List.length_cons, List.length_nil, List.drop_succ_cons, List.drop_zero, Act.put, List.setIfInBounds_toArray, List.set_cons_zero, List.set_cons_succ, e15, e4]
  generalize vs 9 = q9 at *
  generalize vs 10 = q10 at *
  generalize vs 11 = q11 at *
  generalize vs 12 = q12 at *
  generalize vs 13 = q13 at *
  generalize vs 14 = q14 at *
  have R1 := Lib.hid (R0.out.ab hb)
  have L1 := Lib.hid hL
  have HGB : Hid (w.heap.size < g) := Lib.hid (by have := R0.out.lt; omega)
  have HXG : Hid (x.block < g) := Lib.hid (by have := HXB.out; omega)
  have HB1 := Lib.hid hb
  have HG0 := Lib.hid hg0
  clear hR hF hb e15 e4 hL hg0
  refine wpList_store6 rfl (.tmp 4) (.tmp 15) rfl g rfl #[.int .u32 0, .int .u8 (a4 : Int), .int .u8 (a5 : Int), .int .u32 0, .int .u64 0, .int .u16 0] rfl rfl (by simp [Value.oneCell']) (cs := #[.int .u32 0, .int .u8 0, .int .u8 0, .int .u32 0, .int .u64 0, .int .u16 0]) L1.out rfl ?_
  intro w2 hw2
  have L2 : Hid (LbR w2 g #[.int .u32 0, .int .u8 (a4 : Int), .int .u8 (a5 : Int), .int .u32 0, .int .u64 0, .int .u16 0]) := Lib.hid (by rw [hw2]; exact L1.out.row _)
  have R2 : Hid (LbR w2 w.heap.size #[.int .u32 0, .int .u8 0, .int .u8 0, .int .u32 0, .int .u64 0, .int .u16 0]) := Lib.hid (by rw [hw2]; exact R1.out.rowFar (by have := HGB.out; omega) _)
  have C2 : Hid (Below W0.heap.size W0 w2) := Lib.hid (by rw [hw2]; exact Below.row HB1.out HG0.out _)
  clear hw2 L1 R1 HB1 R0
  have L3 : Hid (LbR (w2.setCell ⟨g, 5, none⟩ (.int .u16 (gn : Int))) g #[.int .u32 0, .int .u8 (a4 : Int), .int .u8 (a5 : Int), .int .u32 0, .int .u64 0, .int .u16 (gn : Int)]) := Lib.hid (L2.out.set 5 _)
  have R3 : Hid (LbR (w2.setCell ⟨g, 5, none⟩ (.int .u16 (gn : Int))) w.heap.size #[.int .u32 0, .int .u8 0, .int .u8 0, .int .u32 0, .int .u64 0, .int .u16 0]) := Lib.hid (R2.out.far (by have := HGB.out; omega) _)
  have C3 : Hid (Below W0.heap.size W0 (w2.setCell ⟨g, 5, none⟩ (.int .u16 (gn : Int)))) := Lib.hid (C2.out.setCell (p := ⟨g, 5, none⟩) HG0.out _)
  have f5 := L2.out.free 5
  obtain ⟨q0, q1, q2, q3, q4, q5⟩ := L2.out.cells
  go_wp2_with fail
  refine (HG6.out w2 (I60.out.ab C2.out)).mono ?_
  rintro e w' ⟨rfl, rfl⟩
  go_wp2_with fail
  generalize w2.setCell ⟨g, 5, none⟩ (.int .u16 (gn : Int)) = w3 at *
  clear f5 q0 q1 q2 q3 q4 q5 L2 R2 C2
  have L4 : Hid (LbR (w3.setCell ⟨g, 4, none⟩ (.int .u64 (cm : Int))) g #[.int .u32 0, .int .u8 (a4 : Int), .int .u8 (a5 : Int), .int .u32 0, .int .u64 (cm : Int), .int .u16 (gn : Int)]) := Lib.hid (L3.out.set 4 _)
  have R4 : Hid (LbR (w3.setCell ⟨g, 4, none⟩ (.int .u64 (cm : Int))) w.heap.size #[.int .u32 0, .int .u8 0, .int .u8 0, .int .u32 0, .int .u64 0, .int .u16 0]) := Lib.hid (R3.out.far (by have := HGB.out; omega) _)
  have C4 : Hid (Below W0.heap.size W0 (w3.setCell ⟨g, 4, none⟩ (.int .u64 (cm : Int)))) := Lib.hid (C3.out.setCell (p := ⟨g, 4, none⟩) HG0.out _)
  have f4 := L3.out.free 4
  obtain ⟨q0, q1, q2, q3, q4, q5⟩ := L3.out.cells
  refine (HG8.out w3 (I80.out.ab C3.out)).mono ?_
  rintro e w' ⟨rfl, rfl⟩
  go_wp2_with fail
  generalize w3.setCell ⟨g, 4, none⟩ (.int .u64 (cm : Int)) = w4 at *
  clear f4 q0 q1 q2 q3 q4 q5 L3 R3 C3
  have Y4 : Hid (w4.cell? ⟨x.block, x.off + 4, none⟩ = some (.int .u8 (a4 : Int))) := Lib.hid ((C4.out.cell (p := ⟨x.block, x.off + 4, none⟩) HXB.out).trans X40.out)
  have HX4 : Hid (x.block < w4.heap.size) := Lib.hid (Nat.lt_of_lt_of_le HXB.out C4.out.size)
  have I16 := Lib.hid (I160.out.ab C4.out)
  have B4 := Lib.hid (below_tr B0.out C4.out B0.out.size)
  clear C4 B0 I60 I80 I160 X40 X50
  · skip
    refine wp_wide3 [⟨27, IsR (.slice (some x) 256 c), [], false⟩, ⟨28, IsR (.pointer (some ⟨x.block, x.off + 4, none⟩)), [0], false⟩, ⟨29, IsR (.int .u8 (a4 : Int)), [1], false⟩, ⟨30, IsR (.bool true), [2], false⟩, ⟨31, IsR (.bool false), [3], false⟩, ⟨32, IsR (.bool false), [4], false⟩, ⟨33, IsR (.slice (some x) 256 c), [5], false⟩, ⟨34, IsR (.slice (some x) 16 c), [5, 6], false⟩, ⟨35, IsR (.agg #[.int .u32 0, .int .u8 (a4 : Int), .int .u8 (a5 : Int), .int .u32 0, .int .u64 (cm : Int), .int .u16 (gn : Int)]), [5], false⟩, ⟨36, OwR w4.heap.size HL, [5, 8], false⟩, ⟨37, IsR (.bool false), [5, 7, 9], false⟩, ⟨38, IsR (.bool true), [5, 10], false⟩] (by kernel_rfl) (by kernel_rfl) rfl rfl rfl ⟨?_, ?_, ?_, ?_, ?_, ?_, ?_, ?_, ?_, ?_, ?_, ?_, trivial⟩ ?_
    · refine ⟨rfl, IsR.mono _, fun a W hA hb hd => takes_plain rfl (yields_value _ ?_ rfl)⟩
      have h0 : a.tmps[0]?.getD undef = .slice (some x) 256 c := (eval_get a 0).trans ((hA.eval (by simp)).trans rfl)
      go_simp
    · refine ⟨rfl, IsR.mono _, fun a W hA hb hd => takes_plain rfl (yields_value _ ?_ rfl)⟩
      have h27 : a.tmps[27]?.getD undef = .slice (some x) 256 c := (eval_get a 27).trans (hd 0 (by simp) _ rfl)
      go_simp
    · refine ⟨rfl, IsR.mono _, fun a W hA hb hd => takes_plain rfl (yields_value _ ?_ rfl)⟩
      have h28 : a.tmps[28]?.getD undef = .pointer (some ⟨x.block, x.off + 4, none⟩) := (eval_get a 28).trans (hd 1 (by simp) _ rfl)
      have hc : W.cell? ⟨x.block, x.off + 4, none⟩ = some (.int .u8 (a4 : Int)) := (hb.cell (p := ⟨x.block, x.off + 4, none⟩) HX4.out).trans Y4.out
      go_simp
    · refine ⟨rfl, IsR.mono _, fun a W hA hb hd => takes_plain rfl ?_⟩
      have h29 : a.tmps[29]?.getD undef = .int .u8 (a4 : Int) := (eval_get a 29).trans (hd 2 (by simp) _ rfl)
      refine yields_call 187 #[.int .u8 (a4 : Int)] (by go_simp) ((HKI.out W).mono ?_)
      rintro e W' ⟨rfl, rfl⟩
      exact ⟨_, rfl, rfl, Below.refl _ _⟩
    · refine ⟨rfl, IsR.mono _, fun a W hA hb hd => takes_plain rfl (yields_value _ ?_ rfl)⟩
      have h30 : a.tmps[30]?.getD undef = .bool true := (eval_get a 30).trans (hd 3 (by simp) _ rfl)
      go_simp
    · refine ⟨rfl, IsR.mono _, fun a W hA hb hd => takes_plain rfl (yields_value _ ?_ rfl)⟩
      have h31 : a.tmps[31]?.getD undef = .bool false := (eval_get a 31).trans (hd 4 (by simp) _ rfl)
      go_simp
    · refine ⟨rfl, IsR.mono _, fun a W hA hb hd => takes_on (i := 5) (d := 32) (b := false) rfl rfl rfl (hd 5 (by simp) _ rfl) (yields_value _ ?_ rfl)⟩
      have h0 : a.tmps[0]?.getD undef = .slice (some x) 256 c := (eval_get a 0).trans ((hA.eval (by simp)).trans rfl)
      go_simp
    · refine ⟨rfl, IsR.mono _, fun a W hA hb hd => takes_on (i := 5) (d := 32) (b := false) rfl rfl rfl (hd 5 (by simp) _ rfl) (yields_value _ ?_ rfl)⟩
      have h33 : a.tmps[33]?.getD undef = .slice (some x) 256 c := (eval_get a 33).trans (hd 6 (by simp) _ rfl)
      have hs := HS16.out W
      go_simp
    · refine ⟨rfl, IsR.mono _, fun a W hA hb hd => takes_on (i := 5) (d := 32) (b := false) rfl rfl rfl (hd 5 (by simp) _ rfl) (yields_value _ ?_ rfl)⟩
      have h4 : a.tmps[4]?.getD undef = .pointer (some ⟨g, 0, none⟩) := (eval_get a 4).trans ((hA.eval (by simp)).trans rfl)
      obtain ⟨q0, q1, q2, q3, q4, q5⟩ := (L4.out.ab hb).cells
      go_simp
    · refine ⟨rfl, OwR.mono _ _, fun a W hA hb hd => takes_on (i := 5) (d := 32) (b := false) rfl rfl rfl (hd 5 (by simp) _ rfl) ?_⟩
      have h35 : a.tmps[35]?.getD undef = .agg #[.int .u32 0, .int .u8 (a4 : Int), .int .u8 (a5 : Int), .int .u32 0, .int .u64 (cm : Int), .int .u16 (gn : Int)] := (eval_get a 35).trans (hd 8 (by simp) _ rfl)
      refine yields_call 189 #[.agg #[.int .u32 0, .int .u8 (a4 : Int), .int .u8 (a5 : Int), .int .u32 0, .int .u64 (cm : Int), .int .u16 (gn : Int)]] (by go_simp) ((HHD.out W).mono ?_)
      rintro e W' ⟨v, rfl, hv, hb'⟩
      exact ⟨v, rfl, hv.lower hb.size, hb'⟩
    · refine ⟨rfl, IsR.mono _, fun a W hA hb hd => ?_⟩
      have h34 : a.tmps[34]?.getD undef = .slice (some x) 16 c := (eval_get a 34).trans (hd 7 (by simp) _ rfl)
      have oh : OwB W w4.heap.size (a.eval (.tmp 36)) HL := hd 9 (by simp) _ rfl
      have eh := eval_get a 36
      generalize a.eval (.tmp 36) = v0 at *
      obtain ⟨A0, c0, rfl, -, -⟩ := oh.shape
      have i0 := oh.isB rfl
      refine takes_on (i := 5) (d := 32) (b := false) rfl rfl rfl (hd 5 (by simp) _ rfl) (yields_call 188 #[.slice (some x) 16 c, .slice A0 HL.length c0] (by go_simp) ((same_any _ _ 16 HL.length c c0 H16 HL W (I16.out.ab hb) i0).mono ?_))
      rintro e W' ⟨rfl, rfl⟩
      exact ⟨_, rfl, by rw [hde]; rfl, Below.refl _ _⟩
    · refine ⟨rfl, IsR.mono _, fun a W hA hb hd => takes_on (i := 5) (d := 32) (b := false) rfl rfl rfl (hd 5 (by simp) _ rfl) (yields_value _ ?_ rfl)⟩
      have h37 : a.tmps[37]?.getD undef = .bool false := (eval_get a 37).trans (hd 10 (by simp) _ rfl)
      go_simp
    intro vs w5 hR hF hb
    have e32 : vs 32 = .bool false := hR 5 _ rfl
    have e38 : vs 38 = .bool true := hR 11 _ rfl
    simp only [List.map_cons, List.map_nil, List.foldl_cons, List.foldl_nil, List.length_cons, List.length_nil, List.drop_succ_cons, List.drop_zero, Act.put, List.setIfInBounds_toArray, List.set_cons_zero, List.set_cons_succ, e32, e38]
    generalize vs 27 = q27 at *
    generalize vs 28 = q28 at *
    generalize vs 29 = q29 at *
    generalize vs 30 = q30 at *
    generalize vs 31 = q31 at *
    generalize vs 33 = q33 at *
    generalize vs 34 = q34 at *
    generalize vs 35 = q35 at *
    generalize vs 36 = q36 at *
    generalize vs 37 = q37 at *
    have L5 := Lib.hid (L4.out.ab hb)
    have R5 := Lib.hid (R4.out.ab hb)
    have B5 := Lib.hid (below_tr B4.out hb B4.out.size)
    clear hR hF hb e32 e38 L4 R4 B4
    go_wp2_with ((with_reducible refine wpList_store6 (o := ⟨none, .store _ (.tmp 2) (.tmp 40), _, _, _, _⟩) rfl (.tmp 2) (.tmp 40) ?_ w.heap.size ?_ #[.int .u32 0, .int .u8 0, .int .u8 0, .int .u32 0, .int .u64 0, .int .u16 0] ?_ ?_ ?_ (cs := #[.int .u32 0, .int .u8 0, .int .u8 0, .int .u32 0, .int .u64 0, .int .u16 0]) ?_ ?_ ?_)
                 · rfl
                 · rfl
                 · rfl
                 · rfl
                 · (simp [Value.oneCell'])
                 · exact R5.out
                 · rfl
                 intro w6 hw6
                 have R6 : LbR w6 w.heap.size #[.int .u32 0, .int .u8 0, .int .u8 0, .int .u32 0, .int .u64 0, .int .u16 0] := by rw [hw6]; exact R5.out.row _
                 have B6 : Hid (Below w.heap.size w w6) := Lib.hid (by rw [hw6]; exact Below.row B5.out (Nat.le_refl _) _)
                 obtain ⟨p0, p1, p2, p3, p4, p5⟩ := R6.cells
                 clear hw6)
    exact bodyPost_ret (v := .tuple #[.agg #[.int .u32 0, .int .u8 0, .int .u8 0, .int .u32 0, .int .u64 0, .int .u16 0], .int .i64 100]) (by simp [results, Tryz.results133, go_sem, p0, p1, p2, p3, p4, p5]) rfl ⟨rfl, B6.out⟩
set_option maxRecDepth 100000 in
set_option maxHeartbeats 4000000 in
theorem rtold_kind (A : Option Addr) (c : Nat) (s : List Nat) (w : World) (h : IsB w A 256 c s) (hok : ¬ (1 ≤ at' s 4 ∧ at' s 4 ≤ 4)) :
    Calls Tryz.prog 133 #[.slice A 256 c] w fun e w' => e = .returned (.tuple #[.agg (lab ⟨0, 0, 0, 0, 0, 0⟩), .int .i64 100]) ∧ Below w.heap.size w w' := by
  have hcap := h.1.lenCap
  have hlen := h.len
  have hb256 := h.2
  have hs6 : ∀ W, (Instr.sliceAt 22 (.slice A 256 c) (some (.int .i64 6)) (some (.int .i64 8)) none).run Tryz.prog W = .ok (.slice (dropA A c 6) 2 (c - 6)) W := fun W => sl_mid W A 256 c 6 8 (by decide) (by omega)
  have hs8 : ∀ W, (Instr.sliceAt 22 (.slice A 256 c) (some (.int .i64 8)) (some (.int .i64 16)) none).run Tryz.prog W = .ok (.slice (dropA A c 8) 8 (c - 8)) W := fun W => sl_mid W A 256 c 8 16 (by decide) (by omega)
  have hs16 : ∀ W, (Instr.sliceAt 22 (.slice A 256 c) none (some (.int .i64 16)) none).run Tryz.prog W = .ok (.slice A 16 c) W := fun W => sl_upto W A 256 c 16 (by omega)
  have i6 := (isB_drop h (m := 6) (by decide)).take (m := 2) (by decide)
  have i8 := (isB_drop h (m := 8) (by decide)).take (m := 8) (by decide)
  have i16 := h.take (m := 16) (by decide)
  have hhd := head_split h.2 hlen
  obtain ⟨x, rfl, hxb, hxc⟩ := h.cell (by decide)
  have X4 : Hid (w.cell? ⟨x.block, x.off + 4, none⟩ = some (.int .u8 (at' s 4 : Nat))) := Lib.hid (hxc 4 (by decide))
  have X5 : Hid (w.cell? ⟨x.block, x.off + 5, none⟩ = some (.int .u8 (at' s 5 : Nat))) := Lib.hid (hxc 5 (by decide))
  have n2 := numB_lt2 i6.2 i6.len
  have n8 := numB_lt8 i8.2 i8.len
  have b4 : at' s 4 < 256 := h.2.at' 4
  have b5 : at' s 5 < 256 := h.2.at' 5
  have HG6 := Lib.hid (fun W (hh : IsB W (dropA (some x) c 6) 2 (c - 6) ((s.drop 6).take 2)) => number_any _ 2 (c - 6) _ W hh (by decide) (by decide))
  have HG8 := Lib.hid (fun W (hh : IsB W (dropA (some x) c 8) 8 (c - 8) ((s.drop 8).take 8)) => number_any _ 8 (c - 8) _ W hh (by decide) (by decide))
  have hki := fun W => rkind_any (at' s 4) W
  have hheads := fun W => rheadOf_any ⟨0, at' s 4, at' s 5, 0, numB ((s.drop 8).take 8), numB ((s.drop 6).take 2)⟩ W ⟨by show 0 < 4294967296; decide, b4, b5, by show 0 < 4294967296; decide, n8, n2⟩

  rw [decide_eq_false hok] at hki
  clear hok hhd
  generalize hHL : headL ⟨0, at' s 4, at' s 5, 0, numB ((s.drop 8).take 8), numB ((s.drop 6).take 2)⟩ = HL at *
  clear hHL
  generalize (s.drop 6).take 2 = s6 at *
  generalize (s.drop 8).take 8 = s8 at *
  generalize numB s6 = gn at *
  generalize numB s8 = cm at *
  generalize at' s 4 = a4 at *
  generalize at' s 5 = a5 at *
  generalize s.take 16 = H16 at *
  have hw : IntKind.u16.wrap (gn : Int) = (gn : Int) := by
    show (gn : Int) % 65536 = (gn : Int)
    omega
  generalize dropA (some x) c 6 = D6 at *
  generalize dropA (some x) c 8 = D8 at *
  have I6 := Lib.hid i6
  have I8 := Lib.hid i8
  have I16' := Lib.hid i16
  have HKI := Lib.hid hki
  have HHD : Hid (∀ W, Calls Tryz.prog 189 #[.agg #[.int .u32 0, .int .u8 (a4 : Int), .int .u8 (a5 : Int), .int .u32 0, .int .u64 (cm : Int), .int .u16 (gn : Int)]] W fun e w' => ∃ v, e = .returned v ∧ OwB w' W.heap.size v HL ∧ Below W.heap.size W w') := Lib.hid hheads
  have HS16 := Lib.hid hs16
  have HXB' := Lib.hid hxb
  have R0 : Hid (LbR (w.alloc (.cells #[.int .u32 0, .int .u8 0, .int .u8 0, .int .u32 0, .int .u64 0, .int .u16 0] 149)) w.heap.size #[.int .u32 0, .int .u8 0, .int .u8 0, .int .u32 0, .int .u64 0, .int .u16 0]) := Lib.hid (heap_alloc_new w _)
  have B0 : Hid (Below w.heap.size w (w.alloc (.cells #[.int .u32 0, .int .u8 0, .int .u8 0, .int .u32 0, .int .u64 0, .int .u16 0] 149))) := Lib.hid ((Below.refl _ _).alloc (Nat.le_refl _) _)
  have I60 := Lib.hid (I6.out.ab B0.out)
  have I80 := Lib.hid (I8.out.ab B0.out)
  have I160 := Lib.hid (I16'.out.ab B0.out)
  have X40 : Hid ((w.alloc (.cells #[.int .u32 0, .int .u8 0, .int .u8 0, .int .u32 0, .int .u64 0, .int .u16 0] 149)).cell? ⟨x.block, x.off + 4, none⟩ = some (.int .u8 (a4 : Int))) := Lib.hid ((B0.out.cell (p := ⟨x.block, x.off + 4, none⟩) hxb).trans X4.out)
  have X50 : Hid ((w.alloc (.cells #[.int .u32 0, .int .u8 0, .int .u8 0, .int .u32 0, .int .u64 0, .int .u16 0] 149)).cell? ⟨x.block, x.off + 5, none⟩ = some (.int .u8 (a5 : Int))) := Lib.hid ((B0.out.cell (p := ⟨x.block, x.off + 5, none⟩) hxb).trans X5.out)
  have HXB : Hid (x.block < (w.alloc (.cells #[.int .u32 0, .int .u8 0, .int .u8 0, .int .u32 0, .int .u64 0, .int .u16 0] 149)).heap.size) := Lib.hid (Nat.lt_of_lt_of_le hxb B0.out.size)
  clear h hlen hb256 i6 i8 i16 hxc hxb hki hheads n2 n8 b4 b5 hs16 X4 X5 I6 I8 I16' hcap
  go_enter Tryz.func133, Tryz.ntmps133
  go_wp2_with fail
  generalize w.alloc (.cells #[.int .u32 0, .int .u8 0, .int .u8 0, .int .u32 0, .int .u64 0, .int .u16 0] 149) = W0 at *
  refine wp_wide3 [⟨9, IsR (.slice (some x) 256 c), [], false⟩, ⟨10, IsR (.pointer (some ⟨x.block, x.off + 4, none⟩)), [0], false⟩, ⟨11, IsR (.int .u8 (a4 : Int)), [1], false⟩, ⟨12, IsR (.slice (some x) 256 c), [], false⟩, ⟨13, IsR (.pointer (some ⟨x.block, x.off + 5, none⟩)), [3], false⟩, ⟨14, IsR (.int .u8 (a5 : Int)), [4], false⟩, ⟨15, IsR (.agg #[.int .u32 0, .int .u8 (a4 : Int), .int .u8 (a5 : Int), .int .u32 0, .int .u64 0, .int .u16 0]), [2, 5], false⟩, ⟨4, NewL W0, [], false⟩] (by kernel_rfl) (by kernel_rfl) rfl rfl rfl ⟨?_, ?_, ?_, ?_, ?_, ?_, ?_, ?_, trivial⟩ ?_
  · refine ⟨rfl, IsR.mono _, fun a W hA hb hd => takes_plain rfl (yields_value _ ?_ rfl)⟩
    have h0 : a.tmps[0]?.getD undef = .slice (some x) 256 c := (eval_get a 0).trans ((hA.eval (by simp)).trans rfl)
    go_simp
  · refine ⟨rfl, IsR.mono _, fun a W hA hb hd => takes_plain rfl (yields_value _ ?_ rfl)⟩
    have h9 : a.tmps[9]?.getD undef = .slice (some x) 256 c := (eval_get a 9).trans (hd 0 (by simp) _ rfl)
    go_simp
  · refine ⟨rfl, IsR.mono _, fun a W hA hb hd => takes_plain rfl (yields_value _ ?_ rfl)⟩
    have h10 : a.tmps[10]?.getD undef = .pointer (some ⟨x.block, x.off + 4, none⟩) := (eval_get a 10).trans (hd 1 (by simp) _ rfl)
    have hc : W.cell? ⟨x.block, x.off + 4, none⟩ = some (.int .u8 (a4 : Int)) := (hb.cell (p := ⟨x.block, x.off + 4, none⟩) HXB.out).trans X40.out
    go_simp
  · refine ⟨rfl, IsR.mono _, fun a W hA hb hd => takes_plain rfl (yields_value _ ?_ rfl)⟩
    have h0 : a.tmps[0]?.getD undef = .slice (some x) 256 c := (eval_get a 0).trans ((hA.eval (by simp)).trans rfl)
    go_simp
  · refine ⟨rfl, IsR.mono _, fun a W hA hb hd => takes_plain rfl (yields_value _ ?_ rfl)⟩
    have h12 : a.tmps[12]?.getD undef = .slice (some x) 256 c := (eval_get a 12).trans (hd 3 (by simp) _ rfl)
    go_simp
  · refine ⟨rfl, IsR.mono _, fun a W hA hb hd => takes_plain rfl (yields_value _ ?_ rfl)⟩
    have h13 : a.tmps[13]?.getD undef = .pointer (some ⟨x.block, x.off + 5, none⟩) := (eval_get a 13).trans (hd 4 (by simp) _ rfl)
    have hc : W.cell? ⟨x.block, x.off + 5, none⟩ = some (.int .u8 (a5 : Int)) := (hb.cell (p := ⟨x.block, x.off + 5, none⟩) HXB.out).trans X50.out
    go_simp
  · refine ⟨rfl, IsR.mono _, fun a W hA hb hd => takes_plain rfl (yields_value _ ?_ rfl)⟩
    have h11 : a.tmps[11]?.getD undef = .int .u8 (a4 : Int) := (eval_get a 11).trans (hd 2 (by simp) _ rfl)
    have h14 : a.tmps[14]?.getD undef = .int .u8 (a5 : Int) := (eval_get a 14).trans (hd 5 (by simp) _ rfl)
    go_simp
  · refine ⟨rfl, NewL.mono _, fun a W hA hb hd => takes_plain rfl ?_⟩
    refine yields_value2 (.pointer (some ⟨W.heap.size, 0, none⟩)) (W.alloc (.cells #[.int .u32 0, .int .u8 0, .int .u8 0, .int .u32 0, .int .u64 0, .int .u16 0] 149)) ?_ ⟨W.heap.size, rfl, heap_alloc_new W _, hb.size⟩ ((Below.refl _ _).alloc (Nat.le_refl _) _)
    go_simp
  intro vs W1 hR hF hb
  have e15 : vs 15 = .agg #[.int .u32 0, .int .u8 (a4 : Int), .int .u8 (a5 : Int), .int .u32 0, .int .u64 0, .int .u16 0] := hR 6 _ rfl
  obtain ⟨g, e4, hL, hg0⟩ : NewL W0 (vs 4) W1 := hR 7 _ rfl
  simp only [List.map_cons, List.map_nil, List.foldl_cons, List.foldl_nil, List.length_cons, List.length_nil, List.drop_succ_cons, List.drop_zero, Act.put, List.setIfInBounds_toArray, List.set_cons_zero, List.set_cons_succ, e15, e4]
  generalize vs 9 = q9 at *
  generalize vs 10 = q10 at *
  generalize vs 11 = q11 at *
  generalize vs 12 = q12 at *
  generalize vs 13 = q13 at *
  generalize vs 14 = q14 at *
  have R1 := Lib.hid (R0.out.ab hb)
  have L1 := Lib.hid hL
  have HGB : Hid (w.heap.size < g) := Lib.hid (by have := R0.out.lt; omega)
  have HXG : Hid (x.block < g) := Lib.hid (by have := HXB.out; omega)
  have HB1 := Lib.hid hb
  have HG0 := Lib.hid hg0
  clear hR hF hb e15 e4 hL hg0
  refine wpList_store6 rfl (.tmp 4) (.tmp 15) rfl g rfl #[.int .u32 0, .int .u8 (a4 : Int), .int .u8 (a5 : Int), .int .u32 0, .int .u64 0, .int .u16 0] rfl rfl (by simp [Value.oneCell']) (cs := #[.int .u32 0, .int .u8 0, .int .u8 0, .int .u32 0, .int .u64 0, .int .u16 0]) L1.out rfl ?_
  intro w2 hw2
  have L2 : Hid (LbR w2 g #[.int .u32 0, .int .u8 (a4 : Int), .int .u8 (a5 : Int), .int .u32 0, .int .u64 0, .int .u16 0]) := Lib.hid (by rw [hw2]; exact L1.out.row _)
  have R2 : Hid (LbR w2 w.heap.size #[.int .u32 0, .int .u8 0, .int .u8 0, .int .u32 0, .int .u64 0, .int .u16 0]) := Lib.hid (by rw [hw2]; exact R1.out.rowFar (by have := HGB.out; omega) _)
  have C2 : Hid (Below W0.heap.size W0 w2) := Lib.hid (by rw [hw2]; exact Below.row HB1.out HG0.out _)
  clear hw2 L1 R1 HB1 R0
  have L3 : Hid (LbR (w2.setCell ⟨g, 5, none⟩ (.int .u16 (gn : Int))) g #[.int .u32 0, .int .u8 (a4 : Int), .int .u8 (a5 : Int), .int .u32 0, .int .u64 0, .int .u16 (gn : Int)]) := Lib.hid (L2.out.set 5 _)
  have R3 : Hid (LbR (w2.setCell ⟨g, 5, none⟩ (.int .u16 (gn : Int))) w.heap.size #[.int .u32 0, .int .u8 0, .int .u8 0, .int .u32 0, .int .u64 0, .int .u16 0]) := Lib.hid (R2.out.far (by have := HGB.out; omega) _)
  have C3 : Hid (Below W0.heap.size W0 (w2.setCell ⟨g, 5, none⟩ (.int .u16 (gn : Int)))) := Lib.hid (C2.out.setCell (p := ⟨g, 5, none⟩) HG0.out _)
  have f5 := L2.out.free 5
  obtain ⟨q0, q1, q2, q3, q4, q5⟩ := L2.out.cells
  go_wp2_with fail
  refine (HG6.out w2 (I60.out.ab C2.out)).mono ?_
  rintro e w' ⟨rfl, rfl⟩
  go_wp2_with fail
  generalize w2.setCell ⟨g, 5, none⟩ (.int .u16 (gn : Int)) = w3 at *
  clear f5 q0 q1 q2 q3 q4 q5 L2 R2 C2
  have L4 : Hid (LbR (w3.setCell ⟨g, 4, none⟩ (.int .u64 (cm : Int))) g #[.int .u32 0, .int .u8 (a4 : Int), .int .u8 (a5 : Int), .int .u32 0, .int .u64 (cm : Int), .int .u16 (gn : Int)]) := Lib.hid (L3.out.set 4 _)
  have R4 : Hid (LbR (w3.setCell ⟨g, 4, none⟩ (.int .u64 (cm : Int))) w.heap.size #[.int .u32 0, .int .u8 0, .int .u8 0, .int .u32 0, .int .u64 0, .int .u16 0]) := Lib.hid (R3.out.far (by have := HGB.out; omega) _)
  have C4 : Hid (Below W0.heap.size W0 (w3.setCell ⟨g, 4, none⟩ (.int .u64 (cm : Int)))) := Lib.hid (C3.out.setCell (p := ⟨g, 4, none⟩) HG0.out _)
  have f4 := L3.out.free 4
  obtain ⟨q0, q1, q2, q3, q4, q5⟩ := L3.out.cells
  refine (HG8.out w3 (I80.out.ab C3.out)).mono ?_
  rintro e w' ⟨rfl, rfl⟩
  go_wp2_with fail
  generalize w3.setCell ⟨g, 4, none⟩ (.int .u64 (cm : Int)) = w4 at *
  clear f4 q0 q1 q2 q3 q4 q5 L3 R3 C3
  have Y4 : Hid (w4.cell? ⟨x.block, x.off + 4, none⟩ = some (.int .u8 (a4 : Int))) := Lib.hid ((C4.out.cell (p := ⟨x.block, x.off + 4, none⟩) HXB.out).trans X40.out)
  have HX4 : Hid (x.block < w4.heap.size) := Lib.hid (Nat.lt_of_lt_of_le HXB.out C4.out.size)
  have I16 := Lib.hid (I160.out.ab C4.out)
  have B4 := Lib.hid (below_tr B0.out C4.out B0.out.size)
  clear C4 B0 I60 I80 I160 X40 X50
  · skip
    refine wp_wide3 [⟨27, IsR (.slice (some x) 256 c), [], false⟩, ⟨28, IsR (.pointer (some ⟨x.block, x.off + 4, none⟩)), [0], false⟩, ⟨29, IsR (.int .u8 (a4 : Int)), [1], false⟩, ⟨30, IsR (.bool false), [2], false⟩, ⟨31, IsR (.bool true), [3], false⟩, ⟨32, IsR (.bool true), [4], false⟩, ⟨33, AnyR, [5], false⟩, ⟨34, AnyR, [5], false⟩, ⟨35, AnyR, [5], false⟩, ⟨36, AnyR, [5], false⟩, ⟨37, AnyR, [5], false⟩, ⟨38, AnyR, [5], false⟩] (by kernel_rfl) (by kernel_rfl) rfl rfl rfl ⟨?_, ?_, ?_, ?_, ?_, ?_, ?_, ?_, ?_, ?_, ?_, ?_, trivial⟩ ?_
    · refine ⟨rfl, IsR.mono _, fun a W hA hb hd => takes_plain rfl (yields_value _ ?_ rfl)⟩
      have h0 : a.tmps[0]?.getD undef = .slice (some x) 256 c := (eval_get a 0).trans ((hA.eval (by simp)).trans rfl)
      go_simp
    · refine ⟨rfl, IsR.mono _, fun a W hA hb hd => takes_plain rfl (yields_value _ ?_ rfl)⟩
      have h27 : a.tmps[27]?.getD undef = .slice (some x) 256 c := (eval_get a 27).trans (hd 0 (by simp) _ rfl)
      go_simp
    · refine ⟨rfl, IsR.mono _, fun a W hA hb hd => takes_plain rfl (yields_value _ ?_ rfl)⟩
      have h28 : a.tmps[28]?.getD undef = .pointer (some ⟨x.block, x.off + 4, none⟩) := (eval_get a 28).trans (hd 1 (by simp) _ rfl)
      have hc : W.cell? ⟨x.block, x.off + 4, none⟩ = some (.int .u8 (a4 : Int)) := (hb.cell (p := ⟨x.block, x.off + 4, none⟩) HX4.out).trans Y4.out
      go_simp
    · refine ⟨rfl, IsR.mono _, fun a W hA hb hd => takes_plain rfl ?_⟩
      have h29 : a.tmps[29]?.getD undef = .int .u8 (a4 : Int) := (eval_get a 29).trans (hd 2 (by simp) _ rfl)
      refine yields_call 187 #[.int .u8 (a4 : Int)] (by go_simp) ((HKI.out W).mono ?_)
      rintro e W' ⟨rfl, rfl⟩
      exact ⟨_, rfl, rfl, Below.refl _ _⟩
    · refine ⟨rfl, IsR.mono _, fun a W hA hb hd => takes_plain rfl (yields_value _ ?_ rfl)⟩
      have h30 : a.tmps[30]?.getD undef = .bool false := (eval_get a 30).trans (hd 3 (by simp) _ rfl)
      go_simp
    · refine ⟨rfl, IsR.mono _, fun a W hA hb hd => takes_plain rfl (yields_value _ ?_ rfl)⟩
      have h31 : a.tmps[31]?.getD undef = .bool true := (eval_get a 31).trans (hd 4 (by simp) _ rfl)
      go_simp
    · refine ⟨rfl, AnyR.mono, fun a W hA hb hd => ?_⟩
      exact takes_off (i := 5) (d := 32) (b := false) rfl rfl rfl (hd 5 (by simp) _ rfl) trivial
    · refine ⟨rfl, AnyR.mono, fun a W hA hb hd => ?_⟩
      exact takes_off (i := 5) (d := 32) (b := false) rfl rfl rfl (hd 5 (by simp) _ rfl) trivial
    · refine ⟨rfl, AnyR.mono, fun a W hA hb hd => ?_⟩
      exact takes_off (i := 5) (d := 32) (b := false) rfl rfl rfl (hd 5 (by simp) _ rfl) trivial
    · refine ⟨rfl, AnyR.mono, fun a W hA hb hd => ?_⟩
      exact takes_off (i := 5) (d := 32) (b := false) rfl rfl rfl (hd 5 (by simp) _ rfl) trivial
    · refine ⟨rfl, AnyR.mono, fun a W hA hb hd => ?_⟩
      exact takes_off (i := 5) (d := 32) (b := false) rfl rfl rfl (hd 5 (by simp) _ rfl) trivial
    · refine ⟨rfl, AnyR.mono, fun a W hA hb hd => ?_⟩
      exact takes_off (i := 5) (d := 32) (b := false) rfl rfl rfl (hd 5 (by simp) _ rfl) trivial
    intro vs w5 hR hF hb
    have e32 : vs 32 = .bool true := hR 5 _ rfl
    simp only [List.map_cons, List.map_nil, List.foldl_cons, List.foldl_nil, List.length_cons, List.length_nil, List.drop_succ_cons, List.drop_zero, Act.put, List.setIfInBounds_toArray, List.set_cons_zero, List.set_cons_succ, e32]
    generalize vs 27 = q27 at *
    generalize vs 28 = q28 at *
    generalize vs 29 = q29 at *
    generalize vs 30 = q30 at *
    generalize vs 31 = q31 at *
    generalize vs 33 = q33 at *
    generalize vs 34 = q34 at *
    generalize vs 35 = q35 at *
    generalize vs 36 = q36 at *
    generalize vs 37 = q37 at *
    generalize vs 38 = q38 at *
    have L5 := Lib.hid (L4.out.ab hb)
    have R5 := Lib.hid (R4.out.ab hb)
    have B5 := Lib.hid (below_tr B4.out hb B4.out.size)
    clear hR hF hb e32 L4 R4 B4
    go_wp2_with ((with_reducible refine wpList_store6 (o := ⟨none, .store _ (.tmp 2) (.tmp 40), _, _, _, _⟩) rfl (.tmp 2) (.tmp 40) ?_ w.heap.size ?_ #[.int .u32 0, .int .u8 0, .int .u8 0, .int .u32 0, .int .u64 0, .int .u16 0] ?_ ?_ ?_ (cs := #[.int .u32 0, .int .u8 0, .int .u8 0, .int .u32 0, .int .u64 0, .int .u16 0]) ?_ ?_ ?_)
                 · rfl
                 · rfl
                 · rfl
                 · rfl
                 · (simp [Value.oneCell'])
                 · exact R5.out
                 · rfl
                 intro w6 hw6
                 have R6 : LbR w6 w.heap.size #[.int .u32 0, .int .u8 0, .int .u8 0, .int .u32 0, .int .u64 0, .int .u16 0] := by rw [hw6]; exact R5.out.row _
                 have B6 : Hid (Below w.heap.size w w6) := Lib.hid (by rw [hw6]; exact Below.row B5.out (Nat.le_refl _) _)
                 obtain ⟨p0, p1, p2, p3, p4, p5⟩ := R6.cells
                 clear hw6)
    exact bodyPost_ret (v := .tuple #[.agg #[.int .u32 0, .int .u8 0, .int .u8 0, .int .u32 0, .int .u64 0, .int .u16 0], .int .i64 100]) (by simp [results, Tryz.results133, go_sem, p0, p1, p2, p3, p4, p5]) rfl ⟨rfl, B6.out⟩
theorem rtold_any (A : Option Addr) (n c : Nat) (s : List Nat) (w : World) (h : IsB w A n c s) :
    Calls Tryz.prog 133 #[.slice A n c] w fun e w' => e = .returned (.tuple #[.agg (lab ⟨0, (toldP s).k, (toldP s).lv, 0, (toldP s).cm, (toldP s).gn⟩), .int .i64 ((toldP s).err : Int)]) ∧ Below w.heap.size w w' := by
  have hl := h.len
  unfold toldP
  by_cases hn : n = 256
  · subst hn
    rw [if_pos hl]
    by_cases ho : toldOk s
    · rw [if_pos ho]
      exact rtold_ok A c s w h ho
    · rw [if_neg ho]
      by_cases hk : 1 ≤ at' s 4 ∧ at' s 4 ≤ 4
      · exact rtold_no A c s w h ⟨fun hm => ho ⟨hm, hk⟩, hk⟩
      · exact rtold_kind A c s w h hk
  · rw [if_neg (by omega)]
    exact rtold_short A n c w hn
end Go.Proofs.YtakgebbeknfplaaGreat

namespace Go.Proofs.YtakgebbeknfplaaGreat
open Go.RowKit
set_option linter.unusedVariables false

end Go.Proofs.YtakgebbeknfplaaGreat
