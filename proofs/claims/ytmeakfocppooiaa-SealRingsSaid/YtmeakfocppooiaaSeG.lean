/-
  SealWords, SealSeals: the walks.
  WALKS: seal.Told and the reference's Told (P10.2).
  WALKS: the reference's Told (P10.2).
  SealOpens, SealBack: the walks.
-/
import Derived.Test.YtmeakfocppooiaaSeE
import Derived.Test.YtmeakfocppooiaaSeD
namespace Go.Proofs.Ytmeakfocppooiaa
open Go.RowKit
set_option linter.unusedVariables false

section
variable {P : Program}
/-- a struct of integers that came in -/
theorem okWide_ints {w : World} {r : Reach} {base : Nat} {t : TypeId} {fs : Array Field} {v : Value} {ts : List TypeId} (ht : P.underlying t = some (.struct fs)) (hts : P.cellTypes P.depth t = some ts) (h : Value.okWide P w r base t v) :
    ∃ cs, v = .agg cs ∧ cs.size = P.cellsOf t ∧ ∀ (i : Nat) (u : TypeId) (k : IntKind), ts[i]? = some u → P.underlying u = some (.int k) → ∀ x, cs[i]? = some x → ∃ z, x = .int k z ∧ k.min ≤ z ∧ z ≤ k.max := by
  simp only [Value.okWide, ht] at h
  obtain ⟨cs, rfl, hs, ts', h1, _, h2⟩ := h
  rw [hts] at h1
  injection h1 with h1
  subst h1
  refine ⟨cs, rfl, hs, fun i u k hu hk x hx => ?_⟩
  obtain ⟨u', hu', hc⟩ := h2 i x hx
  rw [Nat.mod_eq_of_lt (by rcases Nat.lt_or_ge i ts.length with h | h; exact h; rw [List.getElem?_eq_none h] at hu; cases hu), hu] at hu'
  injection hu' with hu'
  subst hu'
  cases x <;> simp only [Cell.okWide, hk, Cell.ok] at hc
  rename_i k' z
  obtain ⟨rfl, hz⟩ := hc
  simp only [IntKind.has] at hz
  exact ⟨z, rfl, by omega, by omega⟩
end
theorem array6' {α : Type} {cs : Array α} (h : cs.size = 6) : ∃ c0 c1 c2 c3 c4 c5, cs = #[c0, c1, c2, c3, c4, c5] := by
  obtain ⟨l⟩ := cs
  match l, h with
  | [c0, c1, c2, c3, c4, c5], _ => exact ⟨c0, c1, c2, c3, c4, c5, rfl⟩
set_option maxRecDepth 100000 in
theorem open_label {W : World} {r : Reach} {base : Nat} {v : Value} (hk : Value.okWide Try.prog W r base 35 v) : ∃ l : Lb, v = .agg (lab l) ∧ l.Ok := by
  obtain ⟨cs, rfl, hs, hc⟩ := okWide_ints (ts := [29, 5, 5, 29, 30, 31]) Try.underlying35 (by kernel_rfl) hk
  have h6 : Try.prog.cellsOf 35 = 6 := by kernel_rfl
  rw [h6] at hs
  obtain ⟨c0, c1, c2, c3, c4, c5, rfl⟩ := array6' hs
  obtain ⟨z0, rfl, a0, b0⟩ := hc 0 _ .u32 rfl Try.underlying29 _ rfl
  obtain ⟨z1, rfl, a1, b1⟩ := hc 1 _ .u8 rfl Try.underlying5 _ rfl
  obtain ⟨z2, rfl, a2, b2⟩ := hc 2 _ .u8 rfl Try.underlying5 _ rfl
  obtain ⟨z3, rfl, a3, b3⟩ := hc 3 _ .u32 rfl Try.underlying29 _ rfl
  obtain ⟨z4, rfl, a4, b4⟩ := hc 4 _ .u64 rfl Try.underlying30 _ rfl
  obtain ⟨z5, rfl, a5, b5⟩ := hc 5 _ .u16 rfl Try.underlying31 _ rfl
  have e8 : IntKind.u8.min = 0 ∧ IntKind.u8.max = 255 := ⟨rfl, rfl⟩
  have e16 : IntKind.u16.min = 0 ∧ IntKind.u16.max = 65535 := ⟨rfl, rfl⟩
  have e32 : IntKind.u32.min = 0 ∧ IntKind.u32.max = 4294967295 := ⟨rfl, rfl⟩
  have e64 : IntKind.u64.min = 0 ∧ IntKind.u64.max = 18446744073709551615 := ⟨rfl, rfl⟩
  obtain ⟨n0, rfl⟩ : ∃ n : Nat, z0 = (n : Int) := ⟨z0.toNat, by omega⟩
  obtain ⟨n1, rfl⟩ : ∃ n : Nat, z1 = (n : Int) := ⟨z1.toNat, by omega⟩
  obtain ⟨n2, rfl⟩ : ∃ n : Nat, z2 = (n : Int) := ⟨z2.toNat, by omega⟩
  obtain ⟨n3, rfl⟩ : ∃ n : Nat, z3 = (n : Int) := ⟨z3.toNat, by omega⟩
  obtain ⟨n4, rfl⟩ : ∃ n : Nat, z4 = (n : Int) := ⟨z4.toNat, by omega⟩
  obtain ⟨n5, rfl⟩ : ∃ n : Nat, z5 = (n : Int) := ⟨z5.toNat, by omega⟩
  exact ⟨⟨n0, n1, n2, n3, n4, n5⟩, rfl, by show n0 < 4294967296; omega, by show n1 < 256; omega, by show n2 < 256; omega, by show n3 < 4294967296; omega, by show n4 < 18446744073709551616; omega, by show n5 < 65536; omega⟩
set_option maxRecDepth 100000 in
set_option maxHeartbeats 4000000 in
theorem long2_any (aA bA : Option Addr) (an ac bn bc g : Nat) (w : World) (h : w.heap[g]? = some (.cells #[.slice aA an ac, .slice bA bn bc] 28 (0, 0))) :
    Calls Try.prog 15 #[.slice (some ⟨g, 0, none⟩) 2 2] w fun e w' => e = .returned (.bool (decide (4096 < an ∨ 4096 < bn))) ∧ w = w' := by
  have c0 : w.cell? ⟨g, 0, none⟩ = some (.slice aA an ac) := by rw [cell_of_row w g 0 _ _ (0, 0) h]; rfl
  have c1 : w.cell? ⟨g, 1, none⟩ = some (.slice bA bn bc) := by rw [cell_of_row w g 1 _ _ (0, 0) h]; rfl
  clear h
  go_enter Try.func15, Try.ntmps15
  go_wp2_with fail
  go_loopw [3, 6] (fun _ j wr => ∃ i : Nat, i ≤ 2 ∧ j = .int .i64 i ∧ w = wr ∧ (0 < i → ¬ 4096 < an) ∧ (1 < i → ¬ 4096 < bn)) (fun _ j _ => 2 - (intOf j).toNat)
  case atStart => exact ⟨0, by omega, rfl, rfl, by omega, by omega⟩
  case round =>
    obtain ⟨i, hi, rfl, rfl, ha, hb⟩ := hrel
    have : i = 0 ∨ i = 1 ∨ i = 2 := by omega
    rcases this with rfl | rfl | rfl
    · by_cases h : 4096 < an
      · have hd : decide (4096 < (an : Int)) = true := by simp; omega
        have he : Hid (decide (4096 < an ∨ 4096 < bn) = true) := Lib.hid (decide_eq_true (Or.inl h))
        clear h ha hb
        go_wp2_with fail
        go_ret
        exact ⟨by rw [he.out]; rfl, rfl⟩
      · have hd : decide (4096 < (an : Int)) = false := by simp; omega
        have he : Hid (¬ 4096 < an) := Lib.hid h
        clear h ha hb
        go_wp2_with fail
        go_roundw
        case rel => exact ⟨1, by omega, by go_num, by first | rfl | trivial, fun _ => he.out, by omega⟩
        case measure => simp [intOf]
    · have he : Hid (¬ 4096 < an) := Lib.hid (ha (by omega))
      clear ha hb
      by_cases h : 4096 < bn
      · have hd : decide (4096 < (bn : Int)) = true := by simp; omega
        have hf : Hid (decide (4096 < an ∨ 4096 < bn) = true) := Lib.hid (decide_eq_true (Or.inr h))
        clear h
        go_wp2_with fail
        go_ret
        exact ⟨by rw [hf.out]; rfl, rfl⟩
      · have hd : decide (4096 < (bn : Int)) = false := by simp; omega
        have hf : Hid (¬ 4096 < bn) := Lib.hid h
        clear h
        go_wp2_with fail
        go_roundw
        case rel => exact ⟨2, by omega, by go_num, by first | rfl | trivial, fun _ => he.out, fun _ => hf.out⟩
        case measure => simp [intOf]
    · have hf : Hid (decide (4096 < an ∨ 4096 < bn) = false) := Lib.hid (decide_eq_false (fun h => h.elim (ha (by omega)) (hb (by omega))))
      clear ha hb
      go_wp2_with fail
      go_ret
      exact ⟨by rw [hf.out]; rfl, rfl⟩
end Go.Proofs.Ytmeakfocppooiaa

namespace Go.Proofs.Ytmeakfocppooiaa
open Go.RowKit
set_option linter.unusedVariables false

theorem strOf_list (l : List Nat) : (strOf l).data.toList = l.map UInt8.ofNat := rfl
theorem byt_map_inj {a b : List Nat} (ha : Byt a) (hb : Byt b) (h : a.map UInt8.ofNat = b.map UInt8.ofNat) : a = b := (strOf_inj ha hb).1 (by unfold strOf; rw [h])
def magL : List Nat := [67, 72, 84, 49]
/-- what a head says: kind, level, generation, commit; and the refusal -/
structure ToldR where
  k : Nat
  lv : Nat
  gn : Nat
  cm : Nat
  err : Nat
def toldOk (s : List Nat) : Prop := s.take 4 = magL ∧ 1 ≤ at' s 4 ∧ at' s 4 ≤ 4
instance (s : List Nat) : Decidable (toldOk s) := by unfold toldOk; infer_instance
def toldP (s : List Nat) : ToldR :=
  if s.length = 256 then if toldOk s then ⟨at' s 4, at' s 5, numB ((s.drop 6).take 2), numB ((s.drop 8).take 8), 0⟩ else ⟨0, 0, 0, 0, 100⟩ else ⟨0, 0, 0, 0, 2⟩
def toldV (t : ToldR) : Value := .tuple #[.int .u8 (t.k : Int), .int .u8 (t.lv : Int), .int .u16 (t.gn : Int), .int .u64 (t.cm : Int), .int .i64 (t.err : Int)]
set_option maxRecDepth 100000 in
set_option maxHeartbeats 1000000 in
theorem getB_any (A : Option Addr) (n c : Nat) (l : List Nat) (w : World) (hin : IsB w A n c l) (h1 : 1 ≤ n) (h8 : n ≤ 8) :
    Calls Try.prog 129 #[.slice A n c] w fun e w' => e = .returned (.tuple #[.int .u64 (numB l : Int), .int .i64 0]) ∧ w = w' := by
  obtain ⟨x0, rfl, hx0, hcl⟩ := hin.cell (by omega)
  have HC := Lib.hid hcl
  have HL := Lib.hid hin.len
  have HB := Lib.hid hin.2
  have hn1 : (1 : Int) ≤ (n : Int) := by omega
  have hn8 : (n : Int) ≤ 8 := by omega
  have hd1 : decide ((n : Int) < 1) = false := by simp; omega
  have hd2 : decide (8 < (n : Int)) = false := by simp; omega
  clear hin hcl
  go_enter Try.func129, Try.ntmps129
  go_wp2_with fail
  go_loop [4, 6, 17] (fun v _ j => ∃ i : Nat, i ≤ n ∧ j = .int .i64 i ∧ v = .int .u64 (numB (l.take i) : Nat)) (fun _ _ j => n - (intOf j).toNat)
  case atStart => exact ⟨0, by omega, rfl, rfl⟩
  case round =>
    obtain ⟨i, hi, rfl, rfl⟩ := hrel
    by_cases hlt : i < n
    · have hii : (i : Int) < (n : Int) := by omega
      have hcl := HC.out i hlt
      have hx := HB.out.at' i
      have hm := numB_take HB.out (by rw [HL.out]; exact h8) (p := i) (by rw [HL.out]; exact hlt)
      have hs := take_snoc' (l := l) (p := i) (by rw [HL.out]; exact hlt)
      have hnum : numB (l.take (i + 1)) = 256 * numB (l.take i) + at' l i := by rw [hs, numB_snoc]
      generalize at' l i = x at hcl hx hnum
      generalize numB (l.take i) = m at hm hnum
      have hor := or_byte m x hm hx
      have hw1 := wrap_u64' (n := 18446744073709551615) (by decide) ((m : Int) * 256) (by omega) (by omega)
      have hw2 := wrap_u64' (n := 256) (by decide) (x : Int) (by omega) (by omega)
      have HN := Lib.hid hnum
      clear hs hnum
      go_wp2
      go_round
      case rel => exact ⟨i + 1, by omega, by go_num, by rw [HN.out]; go_num⟩
      case measure => simp [intOf]; omega
    · obtain rfl : i = n := by omega
      have he : l.take i = l := List.take_of_length_le (by rw [HL.out]; omega)
      rw [he]
      clear he
      generalize hme : numB l = m
      have HME := Lib.hid hme
      clear hme
      go_wp2
      go_ret2
      exact ⟨by rw [HME.out]; rfl, rfl⟩
theorem strOf_toList (l : List Nat) : (strOf l).toList = l.map UInt8.ofNat := ByteArray.toList_mk _
theorem str_eq {x y : List Nat} (hx : Byt x) (hy : Byt y) : ((strOf x).toList == (strOf y).toList) = decide (x = y) := by
  rw [strOf_toList, strOf_toList]
  by_cases h : x = y
  · rw [decide_eq_true h, h]; simp
  · rw [decide_eq_false h, beq_eq_false_iff_ne]
    exact fun e => h (byt_map_inj hx hy e)
theorem magL_byt : Byt magL := by unfold Byt magL; decide
theorem str_mag {x : List Nat} (hx : Byt x) : ((strOf x).toList == [67, 72, 84, 49]) = decide (x = magL) := by
  have := str_eq hx magL_byt
  rw [strOf_toList magL] at this
  exact this
/-- s[l:h] of bytes -/
theorem sl_mid (W : World) (A : Option Addr) (n c l h : Nat) (hlh : l ≤ h) (hh : h ≤ c) : (Instr.sliceAt 28 (.slice A n c) (some (.int .i64 (l : Int))) (some (.int .i64 (h : Int))) none).run Try.prog W = .ok (.slice (dropA A c l) (h - l) (c - l)) W := by
  have hu : Try.prog.underlying 28 = some (.slice (Try.prog.elem 28)) := by kernel_rfl
  rw [run_sliceAt_slice W _ _ _ _ _ hu, run_slice_lh W _ _ _ _ hu .i64 .i64 (l : Int) (h : Int) (by omega) (by omega) (by omega), sl_size]
  simp only [Result.andThen_ok, sliced, Nat.mul_one, Int.toNat_natCast]
  unfold dropA
  rfl
theorem numB_lt2 {l : List Nat} (hb : Byt l) (hl : l.length = 2) : numB l < 65536 := by
  have := numB_lt hb
  rw [hl] at this
  exact this
set_option maxRecDepth 100000 in
set_option maxHeartbeats 4000000 in
theorem told_ok (A : Option Addr) (c : Nat) (s : List Nat) (w : World) (h : IsB w A 256 c s) (hok : toldOk s) :
    Calls Try.prog 111 #[.slice A 256 c] w fun e w' => e = .returned (toldV ⟨at' s 4, at' s 5, numB ((s.drop 6).take 2), numB ((s.drop 8).take 8), 0⟩) ∧ Below w.heap.size w w' := by
  have hcap := h.1.lenCap
  have hlen := h.len
  obtain ⟨o1, o2, o3⟩ := hok
  have h4 := h.take (m := 4) (by decide)
  rw [o1] at h4
  have hst : (convert 28 9 (.slice A 4 c)).run Try.prog w = .ok (.string (strOf magL)) w := run_str h4 _ _ _ Try.underlying28 Try.underlying5 Try.underlying9
  have hs4 : ∀ W, (Instr.sliceAt 28 (.slice A 256 c) none (some (.int .i64 4)) none).run Try.prog W = .ok (.slice A 4 c) W := fun W => sl_upto W A 256 c 4 (by omega)
  have hmg : ((strOf magL).toList == [67, 72, 84, 49]) = true := by rw [str_mag magL_byt]; decide
  have hs6 : ∀ W, (Instr.sliceAt 28 (.slice A 256 c) (some (.int .i64 6)) (some (.int .i64 8)) none).run Try.prog W = .ok (.slice (dropA A c 6) 2 (c - 6)) W := fun W => sl_mid W A 256 c 6 8 (by decide) (by omega)
  have hs8 : ∀ W, (Instr.sliceAt 28 (.slice A 256 c) (some (.int .i64 8)) (some (.int .i64 16)) none).run Try.prog W = .ok (.slice (dropA A c 8) 8 (c - 8)) W := fun W => sl_mid W A 256 c 8 16 (by decide) (by omega)
  have i6 := (isB_drop h (m := 6) (by decide)).take (m := 2) (by decide)
  have i8 := (isB_drop h (m := 8) (by decide)).take (m := 8) (by decide)
  obtain ⟨x, rfl, hxb, hxc⟩ := h.cell (by decide)
  have c4 : w.cell? ⟨x.block, x.off + 4, none⟩ = some (.int .u8 (at' s 4 : Nat)) := hxc 4 (by decide)
  have c5 : w.cell? ⟨x.block, x.off + 5, none⟩ = some (.int .u8 (at' s 5 : Nat)) := hxc 5 (by decide)
  have k1 : decide (((at' s 4 : Nat) : Int) < 1) = false := by simp; omega
  have k2 : decide ((4 : Int) < ((at' s 4 : Nat) : Int)) = false := by simp; omega
  have n2 := numB_lt2 i6.2 i6.len
  have HG6 := Lib.hid (getB_any _ 2 (c - 6) _ w i6 (by decide) (by decide))
  have HG8 := Lib.hid (getB_any _ 8 (c - 8) _ w i8 (by decide) (by decide))
  generalize numB ((s.drop 6).take 2) = gn at *
  generalize numB ((s.drop 8).take 8) = cm at *
  generalize at' s 4 = a4 at *
  generalize at' s 5 = a5 at *
  have hw : IntKind.u16.wrap (gn : Int) = (gn : Int) := by
    have e1 : IntKind.u16.min = 0 ∧ IntKind.u16.max = 65535 := ⟨rfl, rfl⟩
    show (gn : Int) % 65536 = (gn : Int)
    omega
  generalize dropA (some x) c 6 = D6 at *
  generalize dropA (some x) c 8 = D8 at *
  clear h h4 o1 o2 o3 i6 i8 hxc hlen
  go_enter Try.func111, Try.ntmps111
  go_wp2_with fail
  refine HG6.out.mono ?_
  rintro e w' ⟨rfl, rfl⟩
  go_wp2_with fail
  refine HG8.out.mono ?_
  rintro e w' ⟨rfl, rfl⟩
  go_wp2_with fail
  refine wp_still_tail 13 (by kernel_rfl) (by kernel_rfl) ?_
  simp only [List.take_succ_cons, List.take_zero, List.drop_succ_cons, List.drop_zero]
  repeat still_step
  refine wpStill_nil ?_
  go_wp2_with fail
  exact bodyPost_ret (v := .tuple #[.int .u8 (a4 : Int), .int .u8 (a5 : Int), .int .u16 (gn : Int), .int .u64 (cm : Int), .int .i64 0]) (by simp [results, Try.results111, go_sem]) rfl ⟨rfl, (Below.refl _ _).drew⟩
set_option maxRecDepth 100000 in
set_option maxHeartbeats 1000000 in
theorem told_short (A : Option Addr) (n c : Nat) (w : World) (h : n ≠ 256) :
    Calls Try.prog 111 #[.slice A n c] w fun e w' => e = .returned (toldV ⟨0, 0, 0, 0, 2⟩) ∧ Below w.heap.size w w' := by
  have h1 : ((n : Int) != 256) = true := by simp; omega
  go_enter Try.func111, Try.ntmps111
  go_wp2_with fail
  exact bodyPost_ret (v := .tuple #[.int .u8 0, .int .u8 0, .int .u16 0, .int .u64 0, .int .i64 2]) (by simp [results, Try.results111, go_sem]) rfl ⟨rfl, Below.refl _ _⟩
set_option maxRecDepth 100000 in
set_option maxHeartbeats 4000000 in
theorem told_bad (A : Option Addr) (c : Nat) (s : List Nat) (w : World) (h : IsB w A 256 c s) (hok : ¬ toldOk s) :
    Calls Try.prog 111 #[.slice A 256 c] w fun e w' => e = .returned (toldV ⟨0, 0, 0, 0, 100⟩) ∧ Below w.heap.size w w' := by
  have hcap := h.1.lenCap
  have h4 := h.take (m := 4) (by decide)
  have hst : (convert 28 9 (.slice A 4 c)).run Try.prog w = .ok (.string (strOf (s.take 4))) w := run_str h4 _ _ _ Try.underlying28 Try.underlying5 Try.underlying9
  have hs4 : ∀ W, (Instr.sliceAt 28 (.slice A 256 c) none (some (.int .i64 4)) none).run Try.prog W = .ok (.slice A 4 c) W := fun W => sl_upto W A 256 c 4 (by omega)
  have hmg := str_mag h4.2
  obtain ⟨x, rfl, hxb, hxc⟩ := h.cell (by decide)
  have c4 : w.cell? ⟨x.block, x.off + 4, none⟩ = some (.int .u8 (at' s 4 : Nat)) := hxc 4 (by decide)
  have hcase : decide (s.take 4 = magL) = false ∨ (decide (s.take 4 = magL) = true ∧ decide (((at' s 4 : Nat) : Int) < 1) = true) ∨ (decide (s.take 4 = magL) = true ∧ decide (((at' s 4 : Nat) : Int) < 1) = false ∧ decide ((4 : Int) < ((at' s 4 : Nat) : Int)) = true) := by
    by_cases h1 : s.take 4 = magL
    · right
      rw [decide_eq_true h1]
      by_cases h2 : 1 ≤ at' s 4
      · right
        refine ⟨rfl, by simp; omega, ?_⟩
        have : ¬ at' s 4 ≤ 4 := fun h3 => hok ⟨h1, h2, h3⟩
        simp; omega
      · left
        exact ⟨rfl, by simp; omega⟩
    · left
      exact decide_eq_false h1
  generalize at' s 4 = a4 at *
  generalize s.take 4 = s4 at *
  clear h h4 hok hxc
  rcases hcase with h1 | ⟨h1, h2⟩ | ⟨h1, h2, h3⟩
  all_goals
    rw [h1] at hmg
    clear h1
    go_enter Try.func111, Try.ntmps111
    go_wp2_with fail
    exact bodyPost_ret (v := .tuple #[.int .u8 0, .int .u8 0, .int .u16 0, .int .u64 0, .int .i64 100]) (by simp [results, Try.results111, go_sem]) rfl ⟨rfl, Below.refl _ _⟩
theorem told_any (A : Option Addr) (n c : Nat) (s : List Nat) (w : World) (h : IsB w A n c s) :
    Calls Try.prog 111 #[.slice A n c] w fun e w' => e = .returned (toldV (toldP s)) ∧ Below w.heap.size w w' := by
  have hl := h.len
  unfold toldP
  by_cases hn : n = 256
  · subst hn
    rw [if_pos hl]
    by_cases ho : toldOk s
    · rw [if_pos ho]
      exact told_ok A c s w h ho
    · rw [if_neg ho]
      exact told_bad A c s w h ho
  · rw [if_neg (by omega)]
    exact told_short A n c w hn
end Go.Proofs.Ytmeakfocppooiaa

namespace Go.Proofs.Ytmeakfocppooiaa
open Go.RowKit
set_option linter.unusedVariables false

theorem szL6 : (Try.prog.info? 35).map (·.size) = some 6 := by kernel_rfl
section
variable {w w' : World} {B : Nat} {cs : Array Value}
theorem LbR.row (k : LbR w B cs) (cs' : Array Value) : LbR (w.setRow B cs') B cs' := setRow_heap w B _ _ _ _ k
theorem LbR.rowFar (k : LbR w B cs) {c : Nat} (hne : B ≠ c) (cs' : Array Value) : LbR (w.setRow c cs') B cs := (setRow_other w c B cs' hne).trans k
theorem LbR.set (k : LbR w B cs) (j : Nat) (v : Value) : LbR (w.setCell ⟨B, j, none⟩ v) B (cs.setIfInBounds j v) := heap_setCell_same w B j _ _ v k
theorem LbR.free (k : LbR w B cs) (j : Nat) : w.frozen? ⟨B, j, none⟩ = false := frozen_of_row w B j _ _ k
end
/-- a store of a label, the new world under a name of its own -/
theorem wpList_store6 {ops : Array Oper} {rest : List Oper} {o : Oper} {a : Act} {w : World} {Q : Exit → Act → World → Prop} (hgd : o.guard = none) (x y : Operand) (ho : o.op = .store 35 x y)
    (g : Nat) (hx : a.eval x = .pointer (some ⟨g, 0, none⟩)) (cs' : Array Value) (hy : a.eval y = .agg cs') (h6 : cs'.size = 6) (h1 : cs'.all (·.oneCell') = true) {cs : Array Value} (hg : LbR w g cs) (h0 : cs.size = 6)
    (h : ∀ w2, w2 = w.setRow g cs' → wpList Try.prog ops Q rest (a.put o.dst undef) w2) : wpList Try.prog ops Q (o :: rest) a w := by
  have hrun := run_storeVar_row (P := Try.prog) w g 35 35 cs cs' hg (by rw [h6]; exact szL6) (by rw [h0, h6]) h1
  refine wpList_plain hgd fun K hK => ?_
  have hK := hK _ _ (h _ rfl)
  unfold Oper.wp execOp
  simp only [ho, hx, hy, Instr.storeAt, Instr.sureAddr, Sem.run_bind, Sem.run_pure, Result.andThen_ok, hrun]
  exact hK
/-- a fresh label of noughts -/
def NewL (w0 : World) (v : Value) (W : World) : Prop := ∃ g, v = .pointer (some ⟨g, 0, none⟩) ∧ LbR W g #[.int .u32 0, .int .u8 0, .int .u8 0, .int .u32 0, .int .u64 0, .int .u16 0] ∧ w0.heap.size ≤ g
theorem NewL.mono (w0 : World) : Mono (NewL w0) := fun v W W' ⟨g, h1, h2, h3⟩ hb => ⟨g, h1, h2.ab hb, h3⟩
def AnyR (_ : Value) (_ : World) : Prop := True
theorem AnyR.mono : Mono AnyR := fun _ _ _ _ _ => trivial
theorem head_split {s : List Nat} (hb : Byt s) (hl : s.length = 256) : (s.take 16 = headL ⟨0, at' s 4, at' s 5, 0, numB ((s.drop 8).take 8), numB ((s.drop 6).take 2)⟩) = (s.take 4 = magL) := by
  have e2 : ((s.drop 6).take 2).length = 2 := by simp [hl]
  have e8 : ((s.drop 8).take 8).length = 8 := by simp [hl]
  have d2 := digB_numB ((s.drop 6).take 2) (byt_take (byt_drop hb 6) 2)
  have d8 := digB_numB ((s.drop 8).take 8) (byt_take (byt_drop hb 8) 8)
  rw [e2] at d2
  rw [e8] at d8
  have b4 : at' s 4 < 256 := hb.at' 4
  have b5 : at' s 5 < 256 := hb.at' 5
  have e : headL ⟨0, at' s 4, at' s 5, 0, numB ((s.drop 8).take 8), numB ((s.drop 6).take 2)⟩ = magL ++ (s.drop 4).take 12 := by
    unfold headL headN
    simp only [flatN, digB_one b4, digB_one b5, d2, d8, List.append_nil]
    have x1 : (s.drop 4).take 12 = [at' s 4] ++ ([at' s 5] ++ ((s.drop 6).take 2 ++ (s.drop 8).take 8)) := by
      refine at'_ext (by simp [hl]) fun j hj => ?_
      have hj : j < 12 := by simpa [hl] using hj
      rw [at'_take8 hj, at'_drop]
      match j, hj with
      | 0, _ => rfl
      | 1, _ => rfl
      | j + 2, hj =>
        show at' s (4 + (j + 2)) = at' ((s.drop 6).take 2 ++ (s.drop 8).take 8) j
        by_cases h : j < 2
        · rw [at_left _ _ _ (by rw [e2]; exact h), at'_take8 h, at'_drop]
          congr 1
          omega
        · rw [at_right _ _ (by rw [e2]; omega), e2, at'_take8 (by omega), at'_drop]
          congr 1
          omega
    rw [x1]
    rfl
  rw [e]
  have h16 : s.take 16 = s.take 4 ++ (s.drop 4).take 12 := by
    rw [show (16 : Nat) = 4 + 12 from rfl, List.take_add]
  rw [h16]
  apply propext
  constructor
  · intro h
    exact (List.append_inj h (by simp [hl]; rfl)).1
  · intro h
    rw [h]
theorem yields_value2 {P : Program} {o : Oper} {a : Act} {W : World} {R : Value → World → Prop} (v : Value) (W' : World) (h : (execOp a.eval o).run P W = .ok (.value v) W') (hR : R v W') (hb : Below W.heap.size W W') : Yields P o a W false R := .inl ⟨v, W', h, hR, hb, fresh_no _ _ _⟩
end Go.Proofs.Ytmeakfocppooiaa

namespace Go.Proofs.Ytmeakfocppooiaa
open Go.RowKit
set_option linter.unusedVariables false

end Go.Proofs.Ytmeakfocppooiaa
