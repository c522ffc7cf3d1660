/-
  SealWords, SealSeals: the walks.
-/
import Derived.Test.YtpofndciepoooaaSeE
import Derived.Test.YtpofndciepoooaaSeD
namespace Go.Proofs.Ytpofndciepoooaa
open Go.RowKit
set_option linter.unusedVariables false

section
variable {P : Program}
/-- a struct of integers that came in -/
theorem okWide_ints {w : World} {r : Reach} {base : Nat} {t : TypeId} {fs : Array Field} {v : Value} {ts : List TypeId} (ht : P.underlying t = some (.struct fs)) (hts : P.cellTypes P.depth t = some ts) (h : Value.okWide P w r base t v) :
    ∃ cs, v = .agg cs ∧ cs.size = P.cellsOf t ∧ ∀ (i : Nat) (u : TypeId) (k : IntKind), ts[i]? = some u → P.underlying u = some (.int k) → ∀ x, cs[i]? = some x → ∃ z, x = .int k z ∧ k.min ≤ z ∧ z ≤ k.max := by
  simp only [Value.okWide, ht] at h
  obtain ⟨cs, rfl, hs, ts', h1, _, h2⟩ := h
  rw [hts] at h1
  injection h1 with h1
  subst h1
  refine ⟨cs, rfl, hs, fun i u k hu hk x hx => ?_⟩
  obtain ⟨u', hu', hc⟩ := h2 i x hx
  rw [Nat.mod_eq_of_lt (by rcases Nat.lt_or_ge i ts.length with h | h; exact h; rw [List.getElem?_eq_none h] at hu; cases hu), hu] at hu'
  injection hu' with hu'
  subst hu'
  cases x <;> simp only [Cell.okWide, hk, Cell.ok] at hc
  rename_i k' z
  obtain ⟨rfl, hz⟩ := hc
  simp only [IntKind.has] at hz
  exact ⟨z, rfl, by omega, by omega⟩
end
theorem array6' {α : Type} {cs : Array α} (h : cs.size = 6) : ∃ c0 c1 c2 c3 c4 c5, cs = #[c0, c1, c2, c3, c4, c5] := by
  obtain ⟨l⟩ := cs
  match l, h with
  | [c0, c1, c2, c3, c4, c5], _ => exact ⟨c0, c1, c2, c3, c4, c5, rfl⟩
set_option maxRecDepth 100000 in
theorem open_label {W : World} {r : Reach} {base : Nat} {v : Value} (hk : Value.okWide Try.prog W r base 54 v) : ∃ l : Lb, v = .agg (lab l) ∧ l.Ok := by
  obtain ⟨cs, rfl, hs, hc⟩ := okWide_ints (ts := [48, 5, 5, 48, 49, 50]) Try.underlying54 (by kernel_rfl) hk
  have h6 : Try.prog.cellsOf 54 = 6 := by kernel_rfl
  rw [h6] at hs
  obtain ⟨c0, c1, c2, c3, c4, c5, rfl⟩ := array6' hs
  obtain ⟨z0, rfl, a0, b0⟩ := hc 0 _ .u32 rfl Try.underlying48 _ rfl
  obtain ⟨z1, rfl, a1, b1⟩ := hc 1 _ .u8 rfl Try.underlying5 _ rfl
  obtain ⟨z2, rfl, a2, b2⟩ := hc 2 _ .u8 rfl Try.underlying5 _ rfl
  obtain ⟨z3, rfl, a3, b3⟩ := hc 3 _ .u32 rfl Try.underlying48 _ rfl
  obtain ⟨z4, rfl, a4, b4⟩ := hc 4 _ .u64 rfl Try.underlying49 _ rfl
  obtain ⟨z5, rfl, a5, b5⟩ := hc 5 _ .u16 rfl Try.underlying50 _ rfl
  have e8 : IntKind.u8.min = 0 ∧ IntKind.u8.max = 255 := ⟨rfl, rfl⟩
  have e16 : IntKind.u16.min = 0 ∧ IntKind.u16.max = 65535 := ⟨rfl, rfl⟩
  have e32 : IntKind.u32.min = 0 ∧ IntKind.u32.max = 4294967295 := ⟨rfl, rfl⟩
  have e64 : IntKind.u64.min = 0 ∧ IntKind.u64.max = 18446744073709551615 := ⟨rfl, rfl⟩
  obtain ⟨n0, rfl⟩ : ∃ n : Nat, z0 = (n : Int) := ⟨z0.toNat, by omega⟩
  obtain ⟨n1, rfl⟩ : ∃ n : Nat, z1 = (n : Int) := ⟨z1.toNat, by omega⟩
  obtain ⟨n2, rfl⟩ : ∃ n : Nat, z2 = (n : Int) := ⟨z2.toNat, by omega⟩
  obtain ⟨n3, rfl⟩ : ∃ n : Nat, z3 = (n : Int) := ⟨z3.toNat, by omega⟩
  obtain ⟨n4, rfl⟩ : ∃ n : Nat, z4 = (n : Int) := ⟨z4.toNat, by omega⟩
  obtain ⟨n5, rfl⟩ : ∃ n : Nat, z5 = (n : Int) := ⟨z5.toNat, by omega⟩
  exact ⟨⟨n0, n1, n2, n3, n4, n5⟩, rfl, by show n0 < 4294967296; omega, by show n1 < 256; omega, by show n2 < 256; omega, by show n3 < 4294967296; omega, by show n4 < 18446744073709551616; omega, by show n5 < 65536; omega⟩
set_option maxRecDepth 100000 in
set_option maxHeartbeats 4000000 in
theorem long2_any (aA bA : Option Addr) (an ac bn bc g : Nat) (w : World) (h : w.heap[g]? = some (.cells #[.slice aA an ac, .slice bA bn bc] 22 (0, 0))) :
    Calls Try.prog 45 #[.slice (some ⟨g, 0, none⟩) 2 2] w fun e w' => e = .returned (.bool (decide (4096 < an ∨ 4096 < bn))) ∧ w = w' := by
  have c0 : w.cell? ⟨g, 0, none⟩ = some (.slice aA an ac) := by rw [cell_of_row w g 0 _ _ (0, 0) h]; rfl
  have c1 : w.cell? ⟨g, 1, none⟩ = some (.slice bA bn bc) := by rw [cell_of_row w g 1 _ _ (0, 0) h]; rfl
  clear h
  go_enter Try.func45, Try.ntmps45
  go_wp2_with fail
  go_loopw [3, 6] (fun _ j wr => ∃ i : Nat, i ≤ 2 ∧ j = .int .i64 i ∧ w = wr ∧ (0 < i → ¬ 4096 < an) ∧ (1 < i → ¬ 4096 < bn)) (fun _ j _ => 2 - (intOf j).toNat)
  case atStart => exact ⟨0, by omega, rfl, rfl, by omega, by omega⟩
  case round =>
    obtain ⟨i, hi, rfl, rfl, ha, hb⟩ := hrel
    have : i = 0 ∨ i = 1 ∨ i = 2 := by omega
    rcases this with rfl | rfl | rfl
    · by_cases h : 4096 < an
      · have hd : decide (4096 < (an : Int)) = true := by simp; omega
        have he : Hid (decide (4096 < an ∨ 4096 < bn) = true) := Lib.hid (decide_eq_true (Or.inl h))
        clear h ha hb
        go_wp2_with fail
        go_ret
        exact ⟨by rw [he.out]; rfl, rfl⟩
      · have hd : decide (4096 < (an : Int)) = false := by simp; omega
        have he : Hid (¬ 4096 < an) := Lib.hid h
        clear h ha hb
        go_wp2_with fail
        go_roundw
        case rel => exact ⟨1, by omega, by go_num, by first | rfl | trivial, fun _ => he.out, by omega⟩
        case measure => simp [intOf]
    · have he : Hid (¬ 4096 < an) := Lib.hid (ha (by omega))
      clear ha hb
      by_cases h : 4096 < bn
      · have hd : decide (4096 < (bn : Int)) = true := by simp; omega
        have hf : Hid (decide (4096 < an ∨ 4096 < bn) = true) := Lib.hid (decide_eq_true (Or.inr h))
        clear h
        go_wp2_with fail
        go_ret
        exact ⟨by rw [hf.out]; rfl, rfl⟩
      · have hd : decide (4096 < (bn : Int)) = false := by simp; omega
        have hf : Hid (¬ 4096 < bn) := Lib.hid h
        clear h
        go_wp2_with fail
        go_roundw
        case rel => exact ⟨2, by omega, by go_num, by first | rfl | trivial, fun _ => he.out, fun _ => hf.out⟩
        case measure => simp [intOf]
    · have hf : Hid (decide (4096 < an ∨ 4096 < bn) = false) := Lib.hid (decide_eq_false (fun h => h.elim (ha (by omega)) (hb (by omega))))
      clear ha hb
      go_wp2_with fail
      go_ret
      exact ⟨by rw [hf.out]; rfl, rfl⟩
set_option maxRecDepth 100000 in
set_option maxHeartbeats 4000000 in
theorem words_any (l : Lb) (w : World) (hl : l.Ok) : Calls Try.prog 12 #[.agg (lab l)] w fun e w' => e = .returned (.bool true) ∧ Below w.heap.size w w' := by
  have XB : Hid (LbB (w.alloc (.cells (lab l) 54)) w.heap.size l) := Lib.hid (heap_alloc_new w _)
  have B0 : Hid (Below w.heap.size w (w.alloc (.cells (lab l) 54))) := Lib.hid ((Below.refl _ _).alloc (Nat.le_refl _) _)
  have HOK := Lib.hid hl
  clear hl
  go_enter Try.func12, Try.ntmps12
  go_wp2_with fail
  obtain ⟨W0, hW0⟩ : ∃ W0, W0 = w.alloc (.cells (lab l) 54) := ⟨_, rfl⟩
  change Code.wp _ _ _ _ (w.alloc (.cells (lab l) 54))
  rw [← hW0] at XB B0 ⊢
  clear hW0
  refine wp_wide3 [⟨3, IsR (.agg #[.int .u32 (l.ten : Int), .int .u8 (l.k : Int), .int .u8 (l.lv : Int), .int .u32 (l.pg : Int), .int .u64 (l.cm : Int), .int .u16 (l.gn : Int)]), [], false⟩, ⟨4, OwR W0.heap.size (headL l), [0], false⟩, ⟨5, IsR (.agg #[.int .u32 (l.ten : Int), .int .u8 (l.k : Int), .int .u8 (l.lv : Int), .int .u32 (l.pg : Int), .int .u64 (l.cm : Int), .int .u16 (l.gn : Int)]), [], false⟩, ⟨6, OwR W0.heap.size (headL l), [2], false⟩, ⟨7, IsR (.bool true), [1, 3], false⟩, ⟨8, IsR (.bool true), [4], false⟩, ⟨9, IsR (.agg #[.int .u32 (l.ten : Int), .int .u8 (l.k : Int), .int .u8 (l.lv : Int), .int .u32 (l.pg : Int), .int .u64 (l.cm : Int), .int .u16 (l.gn : Int)]), [5], false⟩, ⟨10, OwR W0.heap.size (nonceL l), [5, 6], false⟩, ⟨11, IsR (.agg #[.int .u32 (l.ten : Int), .int .u8 (l.k : Int), .int .u8 (l.lv : Int), .int .u32 (l.pg : Int), .int .u64 (l.cm : Int), .int .u16 (l.gn : Int)]), [5], false⟩, ⟨12, OwR W0.heap.size (nonceL l), [5, 8], false⟩, ⟨13, IsR (.bool true), [5, 7, 9], false⟩, ⟨14, IsR (.bool true), [5, 10], false⟩, ⟨15, IsR (.bool true), [11], false⟩, ⟨16, IsR (.agg #[.int .u32 (l.ten : Int), .int .u8 (l.k : Int), .int .u8 (l.lv : Int), .int .u32 (l.pg : Int), .int .u64 (l.cm : Int), .int .u16 (l.gn : Int)]), [12], false⟩, ⟨17, OwR W0.heap.size (aadL l), [12, 13], false⟩, ⟨18, IsR (.agg #[.int .u32 (l.ten : Int), .int .u8 (l.k : Int), .int .u8 (l.lv : Int), .int .u32 (l.pg : Int), .int .u64 (l.cm : Int), .int .u16 (l.gn : Int)]), [12], false⟩, ⟨19, OwR W0.heap.size (aadL l), [12, 15], false⟩, ⟨20, IsR (.bool true), [12, 14, 16], false⟩, ⟨21, IsR (.bool true), [12, 17], false⟩, ⟨22, IsR (.bool true), [18], false⟩, ⟨23, IsR (.bool true), [19], false⟩, ⟨24, IsR (.bool true), [19, 20], false⟩] (by kernel_rfl) (by kernel_rfl) rfl rfl rfl ⟨?_, ?_, ?_, ?_, ?_, ?_, ?_, ?_, ?_, ?_, ?_, ?_, ?_, ?_, ?_, ?_, ?_, ?_, ?_, ?_, ?_, ?_, trivial⟩ ?_
  · refine ⟨rfl, IsR.mono _, fun a W hA hb hd => takes_plain rfl (yields_value _ ?_ rfl)⟩
    have h1 : a.tmps[1]?.getD undef = .pointer (some ⟨w.heap.size, 0, none⟩) := (eval_get a 1).trans ((hA.eval (by simp)).trans rfl)
    obtain ⟨x0, x1, x2, x3, x4, x5⟩ := (XB.out.ab hb).cells
    go_simp
  · refine ⟨rfl, OwR.mono _ _, fun a W hA hb hd => takes_plain rfl ?_⟩
    have h3 : a.tmps[3]?.getD undef = .agg #[.int .u32 (l.ten : Int), .int .u8 (l.k : Int), .int .u8 (l.lv : Int), .int .u32 (l.pg : Int), .int .u64 (l.cm : Int), .int .u16 (l.gn : Int)] := (eval_get a 3).trans (hd 0 (by simp) _ rfl)
    refine yields_call 38 #[.agg #[.int .u32 (l.ten : Int), .int .u8 (l.k : Int), .int .u8 (l.lv : Int), .int .u32 (l.pg : Int), .int .u64 (l.cm : Int), .int .u16 (l.gn : Int)]] (by go_simp) ((headOf_any l W HOK.out).mono ?_)
    rintro e W' ⟨v, rfl, hv, hb'⟩
    exact ⟨v, rfl, hv.lower hb.size, hb'⟩
  · refine ⟨rfl, IsR.mono _, fun a W hA hb hd => takes_plain rfl (yields_value _ ?_ rfl)⟩
    have h1 : a.tmps[1]?.getD undef = .pointer (some ⟨w.heap.size, 0, none⟩) := (eval_get a 1).trans ((hA.eval (by simp)).trans rfl)
    obtain ⟨x0, x1, x2, x3, x4, x5⟩ := (XB.out.ab hb).cells
    go_simp
  · refine ⟨rfl, OwR.mono _ _, fun a W hA hb hd => takes_plain rfl ?_⟩
    have h5 : a.tmps[5]?.getD undef = .agg #[.int .u32 (l.ten : Int), .int .u8 (l.k : Int), .int .u8 (l.lv : Int), .int .u32 (l.pg : Int), .int .u64 (l.cm : Int), .int .u16 (l.gn : Int)] := (eval_get a 5).trans (hd 2 (by simp) _ rfl)
    refine yields_call 39 #[.agg #[.int .u32 (l.ten : Int), .int .u8 (l.k : Int), .int .u8 (l.lv : Int), .int .u32 (l.pg : Int), .int .u64 (l.cm : Int), .int .u16 (l.gn : Int)]] (by go_simp) ((rheadOf_any l W HOK.out).mono ?_)
    rintro e W' ⟨v, rfl, hv, hb'⟩
    exact ⟨v, rfl, hv.lower hb.size, hb'⟩
  · refine ⟨rfl, IsR.mono _, fun a W hA hb hd => ?_⟩
    have oa : OwB W W0.heap.size (a.eval (.tmp 4)) (headL l) := hd 1 (by simp) _ rfl
    have ob : OwB W W0.heap.size (a.eval (.tmp 6)) (headL l) := hd 3 (by simp) _ rfl
    have ea := eval_get a 4
    have eb := eval_get a 6
    generalize a.eval (.tmp 4) = va at *
    generalize a.eval (.tmp 6) = vb at *
    obtain ⟨Aa, ca, rfl, -, -⟩ := oa.shape
    obtain ⟨Ab, cb, rfl, -, -⟩ := ob.shape
    refine takes_plain rfl (yields_call 28 #[.slice Aa (headL l).length ca, .slice Ab (headL l).length cb] (by go_simp) ((same_yes Aa Ab _ _ ca cb _ _ W (oa.isB rfl) (ob.isB rfl) rfl).mono ?_))
    rintro e W' ⟨rfl, rfl⟩
    exact ⟨_, rfl, rfl, Below.refl _ _⟩
  · refine ⟨rfl, IsR.mono _, fun a W hA hb hd => takes_plain rfl (yields_value _ ?_ rfl)⟩
    have h7 : a.tmps[7]?.getD undef = .bool true := (eval_get a 7).trans (hd 4 (by simp) _ rfl)
    go_simp
  · refine ⟨rfl, IsR.mono _, fun a W hA hb hd => takes_on (i := 5) (d := 8) (b := true) rfl rfl rfl (hd 5 (by simp) _ rfl) (yields_value _ ?_ rfl)⟩
    have h1 : a.tmps[1]?.getD undef = .pointer (some ⟨w.heap.size, 0, none⟩) := (eval_get a 1).trans ((hA.eval (by simp)).trans rfl)
    obtain ⟨x0, x1, x2, x3, x4, x5⟩ := (XB.out.ab hb).cells
    go_simp
  · refine ⟨rfl, OwR.mono _ _, fun a W hA hb hd => takes_on (i := 5) (d := 8) (b := true) rfl rfl rfl (hd 5 (by simp) _ rfl) ?_⟩
    have h9 : a.tmps[9]?.getD undef = .agg #[.int .u32 (l.ten : Int), .int .u8 (l.k : Int), .int .u8 (l.lv : Int), .int .u32 (l.pg : Int), .int .u64 (l.cm : Int), .int .u16 (l.gn : Int)] := (eval_get a 9).trans (hd 6 (by simp) _ rfl)
    refine yields_call 40 #[.agg #[.int .u32 (l.ten : Int), .int .u8 (l.k : Int), .int .u8 (l.lv : Int), .int .u32 (l.pg : Int), .int .u64 (l.cm : Int), .int .u16 (l.gn : Int)]] (by go_simp) ((nonceOf_any l W HOK.out).mono ?_)
    rintro e W' ⟨v, rfl, hv, hb'⟩
    exact ⟨v, rfl, hv.lower hb.size, hb'⟩
  · refine ⟨rfl, IsR.mono _, fun a W hA hb hd => takes_on (i := 5) (d := 8) (b := true) rfl rfl rfl (hd 5 (by simp) _ rfl) (yields_value _ ?_ rfl)⟩
    have h1 : a.tmps[1]?.getD undef = .pointer (some ⟨w.heap.size, 0, none⟩) := (eval_get a 1).trans ((hA.eval (by simp)).trans rfl)
    obtain ⟨x0, x1, x2, x3, x4, x5⟩ := (XB.out.ab hb).cells
    go_simp
  · refine ⟨rfl, OwR.mono _ _, fun a W hA hb hd => takes_on (i := 5) (d := 8) (b := true) rfl rfl rfl (hd 5 (by simp) _ rfl) ?_⟩
    have h11 : a.tmps[11]?.getD undef = .agg #[.int .u32 (l.ten : Int), .int .u8 (l.k : Int), .int .u8 (l.lv : Int), .int .u32 (l.pg : Int), .int .u64 (l.cm : Int), .int .u16 (l.gn : Int)] := (eval_get a 11).trans (hd 8 (by simp) _ rfl)
    refine yields_call 41 #[.agg #[.int .u32 (l.ten : Int), .int .u8 (l.k : Int), .int .u8 (l.lv : Int), .int .u32 (l.pg : Int), .int .u64 (l.cm : Int), .int .u16 (l.gn : Int)]] (by go_simp) ((rnonceOf_any l W HOK.out).mono ?_)
    rintro e W' ⟨v, rfl, hv, hb'⟩
    exact ⟨v, rfl, hv.lower hb.size, hb'⟩
  · refine ⟨rfl, IsR.mono _, fun a W hA hb hd => ?_⟩
    have oa : OwB W W0.heap.size (a.eval (.tmp 10)) (nonceL l) := hd 7 (by simp) _ rfl
    have ob : OwB W W0.heap.size (a.eval (.tmp 12)) (nonceL l) := hd 9 (by simp) _ rfl
    have ea := eval_get a 10
    have eb := eval_get a 12
    generalize a.eval (.tmp 10) = va at *
    generalize a.eval (.tmp 12) = vb at *
    obtain ⟨Aa, ca, rfl, -, -⟩ := oa.shape
    obtain ⟨Ab, cb, rfl, -, -⟩ := ob.shape
    refine takes_on (i := 5) (d := 8) (b := true) rfl rfl rfl (hd 5 (by simp) _ rfl) (yields_call 28 #[.slice Aa (nonceL l).length ca, .slice Ab (nonceL l).length cb] (by go_simp) ((same_yes Aa Ab _ _ ca cb _ _ W (oa.isB rfl) (ob.isB rfl) rfl).mono ?_))
    rintro e W' ⟨rfl, rfl⟩
    exact ⟨_, rfl, rfl, Below.refl _ _⟩
  · refine ⟨rfl, IsR.mono _, fun a W hA hb hd => takes_plain rfl (yields_value _ ?_ rfl)⟩
    have h8 : a.tmps[8]?.getD undef = .bool true := (eval_get a 8).trans (hd 5 (by simp) _ rfl)
    have h13 : a.tmps[13]?.getD undef = .bool true := (eval_get a 13).trans (hd 10 (by simp) _ rfl)
    go_simp
  · refine ⟨rfl, IsR.mono _, fun a W hA hb hd => takes_plain rfl (yields_value _ ?_ rfl)⟩
    have h14 : a.tmps[14]?.getD undef = .bool true := (eval_get a 14).trans (hd 11 (by simp) _ rfl)
    go_simp
  · refine ⟨rfl, IsR.mono _, fun a W hA hb hd => takes_on (i := 12) (d := 15) (b := true) rfl rfl rfl (hd 12 (by simp) _ rfl) (yields_value _ ?_ rfl)⟩
    have h1 : a.tmps[1]?.getD undef = .pointer (some ⟨w.heap.size, 0, none⟩) := (eval_get a 1).trans ((hA.eval (by simp)).trans rfl)
    obtain ⟨x0, x1, x2, x3, x4, x5⟩ := (XB.out.ab hb).cells
    go_simp
  · refine ⟨rfl, OwR.mono _ _, fun a W hA hb hd => takes_on (i := 12) (d := 15) (b := true) rfl rfl rfl (hd 12 (by simp) _ rfl) ?_⟩
    have h16 : a.tmps[16]?.getD undef = .agg #[.int .u32 (l.ten : Int), .int .u8 (l.k : Int), .int .u8 (l.lv : Int), .int .u32 (l.pg : Int), .int .u64 (l.cm : Int), .int .u16 (l.gn : Int)] := (eval_get a 16).trans (hd 13 (by simp) _ rfl)
    refine yields_call 42 #[.agg #[.int .u32 (l.ten : Int), .int .u8 (l.k : Int), .int .u8 (l.lv : Int), .int .u32 (l.pg : Int), .int .u64 (l.cm : Int), .int .u16 (l.gn : Int)]] (by go_simp) ((aadOf_any l W HOK.out).mono ?_)
    rintro e W' ⟨v, rfl, hv, hb'⟩
    exact ⟨v, rfl, hv.lower hb.size, hb'⟩
  · refine ⟨rfl, IsR.mono _, fun a W hA hb hd => takes_on (i := 12) (d := 15) (b := true) rfl rfl rfl (hd 12 (by simp) _ rfl) (yields_value _ ?_ rfl)⟩
    have h1 : a.tmps[1]?.getD undef = .pointer (some ⟨w.heap.size, 0, none⟩) := (eval_get a 1).trans ((hA.eval (by simp)).trans rfl)
    obtain ⟨x0, x1, x2, x3, x4, x5⟩ := (XB.out.ab hb).cells
    go_simp
  · refine ⟨rfl, OwR.mono _ _, fun a W hA hb hd => takes_on (i := 12) (d := 15) (b := true) rfl rfl rfl (hd 12 (by simp) _ rfl) ?_⟩
    have h18 : a.tmps[18]?.getD undef = .agg #[.int .u32 (l.ten : Int), .int .u8 (l.k : Int), .int .u8 (l.lv : Int), .int .u32 (l.pg : Int), .int .u64 (l.cm : Int), .int .u16 (l.gn : Int)] := (eval_get a 18).trans (hd 15 (by simp) _ rfl)
    refine yields_call 43 #[.agg #[.int .u32 (l.ten : Int), .int .u8 (l.k : Int), .int .u8 (l.lv : Int), .int .u32 (l.pg : Int), .int .u64 (l.cm : Int), .int .u16 (l.gn : Int)]] (by go_simp) ((raadOf_any l W HOK.out).mono ?_)
    rintro e W' ⟨v, rfl, hv, hb'⟩
    exact ⟨v, rfl, hv.lower hb.size, hb'⟩
  · refine ⟨rfl, IsR.mono _, fun a W hA hb hd => ?_⟩
    have oa : OwB W W0.heap.size (a.eval (.tmp 17)) (aadL l) := hd 14 (by simp) _ rfl
    have ob : OwB W W0.heap.size (a.eval (.tmp 19)) (aadL l) := hd 16 (by simp) _ rfl
    have ea := eval_get a 17
    have eb := eval_get a 19
    generalize a.eval (.tmp 17) = va at *
    generalize a.eval (.tmp 19) = vb at *
    obtain ⟨Aa, ca, rfl, -, -⟩ := oa.shape
    obtain ⟨Ab, cb, rfl, -, -⟩ := ob.shape
    refine takes_on (i := 12) (d := 15) (b := true) rfl rfl rfl (hd 12 (by simp) _ rfl) (yields_call 28 #[.slice Aa (aadL l).length ca, .slice Ab (aadL l).length cb] (by go_simp) ((same_yes Aa Ab _ _ ca cb _ _ W (oa.isB rfl) (ob.isB rfl) rfl).mono ?_))
    rintro e W' ⟨rfl, rfl⟩
    exact ⟨_, rfl, rfl, Below.refl _ _⟩
  · refine ⟨rfl, IsR.mono _, fun a W hA hb hd => takes_plain rfl (yields_value _ ?_ rfl)⟩
    have h15 : a.tmps[15]?.getD undef = .bool true := (eval_get a 15).trans (hd 12 (by simp) _ rfl)
    have h20 : a.tmps[20]?.getD undef = .bool true := (eval_get a 20).trans (hd 17 (by simp) _ rfl)
    go_simp
  · refine ⟨rfl, IsR.mono _, fun a W hA hb hd => takes_plain rfl (yields_value _ ?_ rfl)⟩
    have h21 : a.tmps[21]?.getD undef = .bool true := (eval_get a 21).trans (hd 18 (by simp) _ rfl)
    go_simp
  · refine ⟨rfl, IsR.mono _, fun a W hA hb hd => ?_⟩
    refine takes_on (i := 19) (d := 22) (b := true) rfl rfl rfl (hd 19 (by simp) _ rfl) (yields_call 44 #[] (by go_simp) ((known10_any W).mono ?_))
    rintro e W' ⟨rfl, hb'⟩
    exact ⟨_, rfl, rfl, hb'⟩
  · refine ⟨rfl, IsR.mono _, fun a W hA hb hd => takes_plain rfl (yields_value _ ?_ rfl)⟩
    have h22 : a.tmps[22]?.getD undef = .bool true := (eval_get a 22).trans (hd 19 (by simp) _ rfl)
    have h23 : a.tmps[23]?.getD undef = .bool true := (eval_get a 23).trans (hd 20 (by simp) _ rfl)
    go_simp
  intro vs W1 hR hF hb
  have e24 : vs 24 = .bool true := hR 21 _ rfl
  simp only [List.map_cons, List.map_nil, List.foldl_cons, List.foldl_nil, List.length_cons, List.length_nil, List.drop_succ_cons, List.drop_zero, Act.put, List.setIfInBounds_toArray, List.set_cons_zero, List.set_cons_succ, e24]
  generalize vs 3 = q3 at *
  generalize vs 4 = q4 at *
  generalize vs 5 = q5 at *
  generalize vs 6 = q6 at *
  generalize vs 7 = q7 at *
  generalize vs 8 = q8 at *
  generalize vs 9 = q9 at *
  generalize vs 10 = q10 at *
  generalize vs 11 = q11 at *
  generalize vs 12 = q12 at *
  generalize vs 13 = q13 at *
  generalize vs 14 = q14 at *
  generalize vs 15 = q15 at *
  generalize vs 16 = q16 at *
  generalize vs 17 = q17 at *
  generalize vs 18 = q18 at *
  generalize vs 19 = q19 at *
  generalize vs 20 = q20 at *
  generalize vs 21 = q21 at *
  generalize vs 22 = q22 at *
  generalize vs 23 = q23 at *
  have B1 := Lib.hid (below_tr B0.out hb B0.out.size)
  clear hR hF hb e24
  go_wp2_with fail
  go_ret
  exact ⟨rfl, B1.out⟩
set_option maxRecDepth 100000 in
theorem words_walk (v : Value) (w : World) (hk : ∃ base, Value.okWide Try.prog w .any base 54 v) {H : Type} {enc : TypeId × Value → H} {d : DataW H} {p : List MemPlace} (_ : DataW.Trod enc Try.prog w 0 (fun _ => true) true 54 v d p) (_ : ∀ x ∈ p, x.block < w.heap.size) :
    Calls Try.prog 12 #[v] w fun e w' => e = .returned (.bool true) ∧ Below w.heap.size w w' := by
  obtain ⟨base, hk⟩ := hk
  obtain ⟨l, rfl, hl⟩ := open_label hk
  exact words_any l w hl
set_option maxRecDepth 100000 in
set_option maxHeartbeats 4000000 in
theorem lseals_any (kA tA : Option Addr) (kn kc tn tc : Nat) (l : Lb) (key text : List Nat) (w : World) (hl : l.Ok) (ik : IsB w kA kn kc key) (it : IsB w tA tn tc text) (hkc : kc ≤ 140737488351232) (htc : tc ≤ 140737488351232) :
    Calls Try.prog 13 #[.slice kA kn kc, .agg (lab l), .slice tA tn tc] w fun e w' => e = .returned (.bool true) ∧ Below w.heap.size w w' := by
  have ck := ik.1.lenCap
  have ct := it.1.lenCap
  have hsg := fun A1 A2 c1 c2 W h1 h2 => lseal_any A1 A2 kn c1 tn c2 l key text W hl h1 h2
  have hsr := fun W h1 h2 => rlseal_any kA tA kn kc tn tc l key text W hl h1 h2
  generalize (sealP key l text).1 = out at *
  generalize (sealP key l text).2 = err at *
  have HSG := Lib.hid hsg
  have HSR := Lib.hid hsr
  have HKC := Lib.hid (fun W h => copy_isB kA kn kc key W h (by omega))
  have HTC := Lib.hid (fun W h => copy_isB tA tn tc text W h (by omega))
  have XB : Hid (LbB ((w.alloc (.cells (lab l) 54)).alloc (.cells #[.slice kA kn kc, .slice tA tn tc] 22)) w.heap.size l) := Lib.hid ((show LbB (w.alloc (.cells (lab l) 54)) w.heap.size l from heap_alloc_new w _).alloc _)
  have IK : Hid (IsB ((w.alloc (.cells (lab l) 54)).alloc (.cells #[.slice kA kn kc, .slice tA tn tc] 22)) kA kn kc key) := Lib.hid ((ik.alloc _).alloc _)
  have IT : Hid (IsB ((w.alloc (.cells (lab l) 54)).alloc (.cells #[.slice kA kn kc, .slice tA tn tc] 22)) tA tn tc text) := Lib.hid ((it.alloc _).alloc _)
  have B0 : Hid (Below w.heap.size w ((w.alloc (.cells (lab l) 54)).alloc (.cells #[.slice kA kn kc, .slice tA tn tc] 22))) := Lib.hid (((Below.refl _ _).alloc (Nat.le_refl _) _).alloc (Nat.le_of_lt (by simp)) _)
  have hlo := long2_any kA tA kn kc tn tc (w.heap.size + 1) ((w.alloc (.cells (lab l) 54)).alloc (.cells #[.slice kA kn kc, .slice tA tn tc] 22)) (by
    have := heap_alloc_new (w.alloc (.cells (lab l) 54)) (.cells #[.slice kA kn kc, .slice tA tn tc] 22)
    rw [show (w.alloc (.cells (lab l) 54)).heap.size = w.heap.size + 1 by simp] at this
    exact this)
  have HLO := Lib.hid hlo
  clear hsg hsr ik it hkc htc ck ct hlo hl
  generalize decide (4096 < kn ∨ 4096 < tn) = b at *
  cases b
  · go_enter Try.func13, Try.ntmps13
    go_wp2_with fail
    refine HLO.out.mono ?_
    rintro e w0 ⟨rfl, rfl⟩
    clear HLO
    generalize (w.alloc (.cells (lab l) 54)).alloc (.cells #[.slice kA kn kc, .slice tA tn tc] 22) = w0 at *
    go_wp2_with fail
    refine (HKC.out w0 IK.out).mono ?_
    rintro e w1 ⟨rfl, k1, b1⟩
    have K1 := Lib.hid k1
    have B1 := Lib.hid (below_tr B0.out b1 B0.out.size)
    have X1 := Lib.hid (XB.out.ab b1)
    have IK1 := Lib.hid (IK.out.ab b1)
    have IT1 := Lib.hid (IT.out.ab b1)
    generalize w0.heap.size = g1 at *
    clear k1 b1 XB IK IT B0
    go_wp2_with fail
    refine (HTC.out w1 IT1.out).mono ?_
    rintro e w2 ⟨rfl, k2, b2⟩
    have T2 := Lib.hid k2
    have K2 := Lib.hid (K1.out.ab b2)
    have B2 := Lib.hid (below_tr B1.out b2 B1.out.size)
    have X2 := Lib.hid (X1.out.ab b2)
    have IK2 := Lib.hid (IK1.out.ab b2)
    have IT2 := Lib.hid (IT1.out.ab b2)
    generalize w1.heap.size = g2 at *
    clear k2 b2 X1 IK1 IT1 B1 K1 HKC HTC
    obtain ⟨x0, x1, x2, x3, x4, x5⟩ := X2.out.cells
    go_wp2_with fail
    refine (HSG.out _ _ _ _ w2 K2.out T2.out).mono ?_
    intro e w5 ho
    obtain ⟨A5, c5, rfl, hin, b5⟩ := ho.form
    have O5 := Lib.hid hin
    have K5 := Lib.hid (K2.out.ab b5)
    have T5 := Lib.hid (T2.out.ab b5)
    have B5 := Lib.hid (below_tr B2.out b5 B2.out.size)
    have X5 := Lib.hid (X2.out.ab b5)
    have IK5 := Lib.hid (IK2.out.ab b5)
    have IT5 := Lib.hid (IT2.out.ab b5)
    clear hin b5 ho K2 T2 B2 X2 IK2 IT2 HSG x0 x1 x2 x3 x4 x5
    obtain ⟨x0, x1, x2, x3, x4, x5⟩ := X5.out.cells
    go_wp2_with fail
    refine (HSR.out w5 IK5.out IT5.out).mono ?_
    intro e w6 ho
    obtain ⟨A6, c6, rfl, hin, b6⟩ := ho.form
    have P6 := Lib.hid hin
    have O6 := Lib.hid (O5.out.ab b6)
    have K6 := Lib.hid (K5.out.ab b6)
    have T6 := Lib.hid (T5.out.ab b6)
    have B6 := Lib.hid (below_tr B5.out b6 B5.out.size)
    have IK6 := Lib.hid (IK5.out.ab b6)
    have IT6 := Lib.hid (IT5.out.ab b6)
    clear hin b6 ho K5 T5 B5 X5 IK5 IT5 O5 HSR x0 x1 x2 x3 x4 x5
    go_wp2_with fail
    refine (same_yes _ _ _ _ _ _ key key _ K6.out IK6.out rfl).mono ?_
    rintro e w' ⟨rfl, rfl⟩
    go_wp2_with fail
    refine (same_yes _ _ _ _ _ _ text text _ T6.out IT6.out rfl).mono ?_
    rintro e w' ⟨rfl, rfl⟩
    go_wp2_with fail
    refine (same_yes _ _ _ _ _ _ out out _ O6.out P6.out rfl).mono ?_
    rintro e w' ⟨rfl, rfl⟩
    go_wp2_with fail
    refine (known10_any _).mono ?_
    rintro e w7 ⟨rfl, b7⟩
    have B7 := Lib.hid (below_tr B6.out b7 B6.out.size)
    clear b7
    go_wp2_with fail
    go_ret
    exact ⟨rfl, B7.out⟩
  · go_enter Try.func13, Try.ntmps13
    go_wp2_with fail
    refine HLO.out.mono ?_
    rintro e w0 ⟨rfl, rfl⟩
    go_wp2_with fail
    refine (known10_any _).mono ?_
    rintro e w7 ⟨rfl, b7⟩
    have B7 := Lib.hid (below_tr B0.out b7 B0.out.size)
    clear b7
    go_wp2_with fail
    go_ret
    exact ⟨rfl, B7.out⟩
set_option maxRecDepth 100000 in
theorem lseals_walk (kA : Option Addr) (kn kc : Nat) (zk : List Int) (v : Value) (tA : Option Addr) (tn tc : Nat) (zt : List Int) (w : World) (hk : IsRow .u8 w kA kn kc zk) (sk : kc * 1 ≤ 140737488351232)
    (hv : ∃ base, Value.okWide Try.prog w .any base 54 v) {H : Type} {enc : TypeId × Value → H} {d : DataW H} {p : List MemPlace} (_ : DataW.Trod enc Try.prog w 0 (fun _ => true) true 54 v d p) (_ : ∀ x ∈ p, x.block < w.heap.size)
    (ht : IsRow .u8 w tA tn tc zt) (st : tc * 1 ≤ 140737488351232) :
    Calls Try.prog 13 #[.slice kA kn kc, v, .slice tA tn tc] w fun e w' => e = .returned (.bool true) ∧ Below w.heap.size w w' := by
  obtain ⟨base, hv⟩ := hv
  obtain ⟨l, rfl, hl⟩ := open_label hv
  obtain ⟨key, rfl, bk⟩ := byt_of_row hk
  obtain ⟨text, rfl, bt⟩ := byt_of_row ht
  exact lseals_any kA tA kn kc tn tc l key text w hl ⟨hk, bk⟩ ⟨ht, bt⟩ (by omega) (by omega)
end Go.Proofs.Ytpofndciepoooaa
