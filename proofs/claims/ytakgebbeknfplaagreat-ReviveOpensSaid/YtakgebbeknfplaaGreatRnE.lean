/-
  DEVICES AND REGISTERS, made anew; Open behind no commit; known of layer 21; ReviveNone: walks.
-/
import Derived.Test.YtakgebbeknfplaaGreatRnD
namespace Go.Proofs.YtakgebbeknfplaaGreat
open Go.RowKit Go.ChangeShapes Go.WideShapes
set_option linter.unusedVariables false

theorem infoDb : (Tryz.prog.info? 179).map (fun i => (i.zero, i.size, i.bytes)) = some (some (.agg (bts (zeros 256))), 256, 256) := by kernel_rfl
theorem made_z (n m : Nat) (hm : 0 < m) : madeCells (bts (zeros m)) n = bts (zeros n) := by
  apply Array.ext
  · simp [madeCells, bts, zeros]
  · intro i h1 h2
    have : i % m < m := Nat.mod_lt _ hm
    simp [madeCells, bts, zeros, this]
theorem make_db (n : Nat) (hc : n ≤ 5000) (W : World) :
    (Instr.makeSlice 161 (.int .i64 (n : Int)) (.int .i64 (n : Int))).run Tryz.prog W = .ok (.slice (some ⟨W.heap.size, 0, none⟩) n n) (W.alloc (.cells (bts (zeros (n * 256))) 179)) := by
  obtain ⟨i0, hi0, h0, h1, h2⟩ := info_parts infoDb
  have := run_make (P := Tryz.prog) W 161 179 i0 _ Tryz.underlying161 hi0 h0 .i64 .i64 n n (by omega) (by omega) (by rw [h2]; omega) (by omega)
  rw [this, h1]
  simp only [Int.toNat_natCast, Value.cells]
  rw [made_z _ 256 (by decide)]
/-- so many noughts, as blocks of a device -/
def DzB (w : World) (g n : Nat) : Prop := Bk w g 179 (zeros (n * 256))
def DzR (S n : Nat) (v : Value) (W : World) : Prop := ∃ g, v = .slice (some ⟨g, 0, none⟩) n n ∧ DzB W g n ∧ S ≤ g
theorem DzR.mono (S n : Nat) : Mono (DzR S n) := fun v W W' ⟨g, h1, h2, h3⟩ hb => ⟨g, h1, h2.below hb h2.lt, h3⟩
/-- a device that was made: its struct's block, and both rows of blocks -/
structure DkN (w : World) (B d b : Nat) (g1 g2 : Nat) : Prop where
  box : CbB w d 164 #[.slice (some ⟨g1, 0, none⟩) b b, .slice (some ⟨g2, 0, none⟩) b b, .slice none 0 0, .int .u64 0, .int .i64 0, .int .i64 (-1), .bool false]
  now : DzB w g1 b
  firm : DzB w g2 b
  low : B ≤ d ∧ B ≤ g1 ∧ B ≤ g2
  ne : g1 ≠ g2
set_option maxRecDepth 100000 in
set_option maxHeartbeats 4000000 in
theorem diskNew_any (b : Nat) (w : World) (hb8 : 8 ≤ b) (hb4 : b ≤ 4096) :
    Calls Tryz.prog 13 #[.int .i64 (b : Int)] w fun e w' => ∃ d g1 g2, e = .returned (.tuple #[.pointer (some ⟨d, 0, none⟩), .int .i64 0]) ∧ DkN w' w.heap.size d b g1 g2 ∧ Below w.heap.size w w' := by
  have h1 : ¬ (b : Int) < 8 := by omega
  have h2 : ¬ (4096 : Int) < (b : Int) := by omega
  have HB : Hid (b ≤ 5000) := Lib.hid (by omega)
  clear hb8 hb4
  go_enter Tryz.func13, Tryz.ntmps13
  go_wp2_with fail
  refine wp_wide3 [⟨10, IsR (.int .i64 (b : Int)), [], false⟩, ⟨11, DzR w.heap.size b, [0], true⟩, ⟨12, IsR (.int .i64 (b : Int)), [], false⟩, ⟨13, DzR w.heap.size b, [2], true⟩] (by kernel_rfl) (by kernel_rfl) rfl rfl rfl ⟨?_, ?_, ?_, ?_, trivial⟩ ?_
  · refine ⟨rfl, IsR.mono _, fun a W hA hb hd => takes_plain rfl (yields_value _ ?_ rfl)⟩
    have h0 : a.tmps[0]?.getD undef = .int .i64 (b : Int) := (eval_get a 0).trans ((hA.eval (by simp)).trans rfl)
    go_simp
  · refine ⟨rfl, DzR.mono _ _, fun a W hA hb hd => takes_plain rfl ?_⟩
    refine .inl ⟨.slice (some ⟨W.heap.size, 0, none⟩) b b, W.alloc (.cells (bts (zeros (b * 256))) 179), ?_, ⟨_, rfl, Bk.new _ _ _, hb.size⟩, (Below.refl _ _).alloc (Nat.le_refl _) _, fun _ => ⟨W.heap.size, rfl, Nat.le_refl _, by simp⟩⟩
    have hx : a.eval (.tmp 10) = .int .i64 (b : Int) := hd 0 (by simp) _ rfl
    have hmk := make_db b HB.out W
    unfold execOp
    simp only [hx, hmk, Sem.run_bind, Result.andThen_ok, Sem.run_pure]
  · refine ⟨rfl, IsR.mono _, fun a W hA hb hd => takes_plain rfl (yields_value _ ?_ rfl)⟩
    have h0 : a.tmps[0]?.getD undef = .int .i64 (b : Int) := (eval_get a 0).trans ((hA.eval (by simp)).trans rfl)
    go_simp
  · refine ⟨rfl, DzR.mono _ _, fun a W hA hb hd => takes_plain rfl ?_⟩
    refine .inl ⟨.slice (some ⟨W.heap.size, 0, none⟩) b b, W.alloc (.cells (bts (zeros (b * 256))) 179), ?_, ⟨_, rfl, Bk.new _ _ _, hb.size⟩, (Below.refl _ _).alloc (Nat.le_refl _) _, fun _ => ⟨W.heap.size, rfl, Nat.le_refl _, by simp⟩⟩
    have hx : a.eval (.tmp 12) = .int .i64 (b : Int) := hd 2 (by simp) _ rfl
    have hmk := make_db b HB.out W
    unfold execOp
    simp only [hx, hmk, Sem.run_bind, Result.andThen_ok, Sem.run_pure]
  intro vs w4 hR hF hb
  obtain ⟨g1, hg1, hz1, hl1⟩ : DzR w.heap.size b (vs 11) w4 := hR 1 _ rfl
  obtain ⟨g2, hg2, hz2, hl2⟩ : DzR w.heap.size b (vs 13) w4 := hR 3 _ rfl
  have HNE : Hid (g1 ≠ g2) := Lib.hid fun e => hF 1 3 _ _ rfl rfl (by decide) rfl rfl (by show blk (vs 11) = blk (vs 13); rw [hg1, hg2, e])
  have e10 : vs 10 = .int .i64 (b : Int) := hR 0 _ rfl
  have e12 : vs 12 = .int .i64 (b : Int) := hR 2 _ rfl
  simp only [List.map_cons, List.map_nil, List.foldl_cons, List.foldl_nil, List.length_cons, List.length_nil, List.drop_succ_cons, List.drop_zero, Act.put, List.setIfInBounds_toArray, List.set_cons_zero, List.set_cons_succ, e10, e12, hg1, hg2]
  have Z1 := Lib.hid hz1
  have Z2 := Lib.hid hz2
  have L1 := Lib.hid hl1
  have L2 := Lib.hid hl2
  have B4 := Lib.hid hb
  clear hR hF hb hz1 hz2 hl1 hl2 hg1 hg2 e10 e12
  go_wp2_with fail
  go_ret2
  have ha : Below w4.heap.size w4 (w4.alloc (.cells #[.slice (some ⟨g1, 0, none⟩) b b, .slice (some ⟨g2, 0, none⟩) b b, .slice none 0 0, .int .u64 0, .int .i64 0, .int .i64 (-1), .bool false] 164)) := (Below.refl _ _).alloc (Nat.le_refl _) _
  exact ⟨w4.heap.size, g1, g2, rfl, ⟨CbB.new _ _ _, Z1.out.below ha Z1.out.lt, Z2.out.below ha Z2.out.lt, ⟨B4.out.size, L1.out, L2.out⟩, HNE.out⟩, below_tr B4.out ha B4.out.size⟩
set_option maxRecDepth 100000 in
theorem regsNew_nil (d lim : Nat) (w : World) :
    Calls Tryz.prog 14 #[.pointer (some ⟨d, 0, none⟩), .int .u64 (lim : Int), .slice none 0 0] w fun e w' => e = .returned (.tuple #[.pointer (some ⟨w.heap.size, 0, none⟩), .int .i64 0]) ∧ CbB w' w.heap.size 166 #[.pointer (some ⟨d, 0, none⟩), .int .u64 (lim : Int), .int .u64 0, .int .u64 0, .slice none 0 0] ∧ Below w.heap.size w w' := by
  go_enter Tryz.func14, Tryz.ntmps14
  go_wp2_with fail
  go_loopw [19] (fun z wx => z = .int .i64 0 ∧ CbB wx w.heap.size 166 #[.pointer (some ⟨d, 0, none⟩), .int .u64 (lim : Int), .int .u64 0, .int .u64 0, .slice none 0 0] ∧ Below w.heap.size w wx) (fun z _ => 0)
  case atStart => exact ⟨rfl, CbB.new _ _ _, (Below.refl _ _).alloc (Nat.le_refl _) _⟩
  case round =>
    obtain ⟨rfl, hc, hb⟩ := hrel
    have HC := Lib.hid hc
    have HB := Lib.hid hb
    clear hc hb
    go_wp2_with fail
    go_ret2
    exact ⟨rfl, HC.out, HB.out⟩
set_option maxRecDepth 100000 in
theorem committed_any (r : Nat) (v0 v4 : Value) (lim res com : Nat) (w : World) (h : CbB w r 166 #[v0, .int .u64 (lim : Int), .int .u64 (res : Int), .int .u64 (com : Int), v4]) :
    Calls Tryz.prog 85 #[.pointer (some ⟨r, 0, none⟩)] w fun e w' => e = .returned (.int .u64 (com : Int)) ∧ w = w' := by
  have hc := h.cell (k := 3) rfl
  clear h
  go_enter Tryz.func85, Tryz.ntmps85
  go_wp2_with fail
  go_ret
  exact ⟨rfl, rfl⟩
set_option maxRecDepth 100000 in
theorem open0_any (d r g : Nat) (v0 v4 : Value) (lim res : Nat) (w : World) (h : CbB w r 166 #[v0, .int .u64 (lim : Int), .int .u64 (res : Int), .int .u64 0, v4]) :
    Calls Tryz.prog 26 #[.pointer (some ⟨d, 0, none⟩), .pointer (some ⟨r, 0, none⟩), .pointer (some ⟨g, 0, none⟩)] w fun e w' => e = .returned (.tuple #[.agg #[.int .u64 0, .int .u32 0, .int .u64 0, .int .u16 0, .int .u8 0, .int .u16 0, .int .u32 0], .int .i64 0]) ∧ Below w.heap.size w w' := by
  have ha : Below w.heap.size w (w.alloc (.cells #[.int .u64 0, .int .u32 0, .int .u64 0, .int .u16 0, .int .u8 0, .int .u16 0, .int .u32 0] 63)) := (Below.refl _ _).alloc (Nat.le_refl _) _
  have HC := Lib.hid (committed_any r v0 v4 lim res 0 _ (h.ab ha))
  clear h ha
  go_enter Tryz.func26, Tryz.ntmps26
  go_wp2_with fail
  refine HC.out.mono ?_
  rintro e w1 ⟨rfl, rfl⟩
  clear HC
  go_wp2_with fail
  (try simp only [Exit.inBlock, Exit.then])
  refine bodyPost_ret (v := .tuple #[.agg #[.int .u64 0, .int .u32 0, .int .u64 0, .int .u16 0, .int .u8 0, .int .u16 0, .int .u32 0], .int .i64 0]) ?_ rfl ?_
  · rw [results_cell_tmp rfl]
    go_simp
  exact ⟨rfl, (Below.refl _ _).alloc (Nat.le_refl _) _⟩
theorem two_refs (W : World) : RfB (W.alloc (.cells #[.int .u32 3, .int .u64 0, .int .u16 0, .int .u32 5, .int .u64 0, .int .u16 0] 59)) (some ⟨W.heap.size, 0, none⟩) 2 2 [⟨3, 0, 0⟩, ⟨5, 0, 0⟩] := by
  have hc : CbB (W.alloc (.cells #[.int .u32 3, .int .u64 0, .int .u16 0, .int .u32 5, .int .u64 0, .int .u16 0] 59)) W.heap.size 59 #[.int .u32 3, .int .u64 0, .int .u16 0, .int .u32 5, .int .u64 0, .int .u16 0] := CbB.new _ _ _
  refine ⟨rfl, Nat.le_refl _, by decide, fun i r hr => ⟨_, rfl, hc.lt, fun j u hu => ?_⟩, fun r hr => ?_⟩
  · have hi : i < 2 := (List.getElem?_eq_some_iff.1 hr).1
    have hj : j < 3 := (Array.getElem?_eq_some_iff.1 hu).1
    rw [Addr.add_mid, Nat.zero_add]
    have : i = 0 ∨ i = 1 := by omega
    have h3 : j = 0 ∨ j = 1 ∨ j = 2 := by omega
    rcases this with rfl | rfl <;> (simp at hr; subst hr; rcases h3 with rfl | rfl | rfl <;> (simp [rfV] at hu; subst hu; exact hc.cell rfl))
  · simp at hr
    rcases hr with rfl | rfl <;> exact ⟨by decide, by decide, by decide⟩
theorem three_runs (W : World) : RnB (W.alloc (.cells #[.int .u32 2, .int .u32 3, .int .u32 4, .int .u32 5, .int .u32 6, .int .u32 8] 134)) (some ⟨W.heap.size, 0, none⟩) 3 3 [(2, 3), (4, 5), (6, 8)] := by
  have h : RuB (W.alloc (.cells #[.int .u32 2, .int .u32 3, .int .u32 4, .int .u32 5, .int .u32 6, .int .u32 8] 134)) W.heap.size (.slice (some ⟨W.heap.size, 0, none⟩) 3 3) [(2, 3), (4, 5), (6, 8)] :=
    ⟨by simp [runVs], .inr ⟨W.heap.size, 3, #[.int .u32 2, .int .u32 3, .int .u32 4, .int .u32 5, .int .u32 6, .int .u32 8], rfl, Nat.le_refl _, heap_alloc_new W _, Nat.le_refl _, by decide, rfl, rfl⟩⟩
  obtain ⟨A, c, h1, h2, _⟩ := h.rn
  injection h1 with h1 h3 h4
  subst h1 h4
  exact h2
theorem free8 : freeP 8 [3, 5] = ([(2, 3), (4, 5), (6, 8)], 0) := by decide
set_option maxRecDepth 100000 in
set_option maxHeartbeats 4000000 in
theorem known21_any (w : World) : Calls Tryz.prog 12 #[] w fun e w' => e = .returned (.bool true) ∧ Below w.heap.size w w' := by
  go_enter Tryz.func12, Tryz.ntmps12
  go_wp2_with fail
  refine (diskNew_any 8 w (by decide) (by decide)).mono ?_
  rintro e w1 ⟨d, g1, g2, rfl, _, hb⟩
  have B1 := Lib.hid hb
  clear hb
  go_wp2_with fail
  refine (regsNew_nil d 1 w1).mono ?_
  rintro e w2 ⟨rfl, hc, hb⟩
  have C2 := Lib.hid hc
  have B2 := Lib.hid (below_tr B1.out hb B1.out.size)
  clear hb hc B1
  generalize w1.heap.size = r at C2 ⊢
  go_wp2_with fail
  refine (newRing_any w2).mono ?_
  rintro e w3 ⟨g, m, rfl, _, _, hb⟩
  have C3 := Lib.hid (C2.out.ab hb)
  have B3 := Lib.hid (below_tr B2.out hb B2.out.size)
  clear hb C2 B2
  go_wp2_with fail
  refine (open0_any d r g _ _ 1 0 w3 C3.out).mono ?_
  rintro e w4 ⟨rfl, hb⟩
  have B4 := Lib.hid (below_tr B3.out hb B3.out.size)
  have A5 := Lib.hid (B4.out.alloc B4.out.size (.cells #[.int .u64 0, .int .u32 0, .int .u64 0, .int .u16 0, .int .u8 0, .int .u16 0, .int .u32 0] 63))
  have C5 : Hid (CbB (w4.alloc (.cells #[.int .u64 0, .int .u32 0, .int .u64 0, .int .u16 0, .int .u8 0, .int .u16 0, .int .u32 0] 63)) w4.heap.size 63 #[.int .u64 0, .int .u32 0, .int .u64 0, .int .u16 0, .int .u8 0, .int .u16 0, .int .u32 0]) := Lib.hid (CbB.new _ _ _)
  clear hb C3 B3 B4
  go_upto_region 4 with (fail)
  obtain ⟨w5, hw5⟩ : ∃ w5, w4.alloc (.cells #[.int .u64 0, .int .u32 0, .int .u64 0, .int .u16 0, .int .u8 0, .int .u16 0, .int .u32 0] 63) = w5 := ⟨_, rfl⟩
  rw [hw5] at A5 C5 ⊢
  generalize w4.heap.size = bx at *
  clear hw5 w4
  have F5 := Lib.hid (rvFree_any 8 (some ⟨w5.heap.size, 0, none⟩) 2 2 [⟨3, 0, 0⟩, ⟨5, 0, 0⟩] _ (two_refs w5) (by decide))
  have D5 : Hid (Below w5.heap.size w5 (w5.alloc (.cells #[.int .u32 3, .int .u64 0, .int .u16 0, .int .u32 5, .int .u64 0, .int .u16 0] 59))) := Lib.hid ((Below.refl _ _).alloc (Nat.le_refl _) _)
  go_wp2_with fail
  refine F5.out.mono ?_
  rintro e w6 hfr
  unfold FreeR at hfr
  simp only [List.map_cons, List.map_nil] at hfr
  rw [free8] at hfr
  obtain ⟨v, rfl, hv, hb⟩ := hfr
  obtain ⟨A6, c6, rfl, hr6, _⟩ := hv.rn
  have D6 := Lib.hid (below_tr D5.out hb D5.out.size)
  have C6 := Lib.hid (C5.out.ab D6.out)
  have B6 := Lib.hid (below_tr A5.out D6.out A5.out.size)
  have A7 : Hid (Below w6.heap.size w6 (w6.alloc (.cells #[.int .u32 2, .int .u32 3, .int .u32 4, .int .u32 5, .int .u32 6, .int .u32 8] 134))) := Lib.hid ((Below.refl _ _).alloc (Nat.le_refl _) _)
  have S7 := Lib.hid (sameR_any A6 (some ⟨w6.heap.size, 0, none⟩) 3 3 c6 3 _ _ _ (hr6.ab A7.out) (three_runs w6))
  have x0 := C6.out.cell (k := 0) rfl
  have x1 := C6.out.cell (k := 1) rfl
  have x2 := C6.out.cell (k := 2) rfl
  have x3 := C6.out.cell (k := 3) rfl
  have x4 := C6.out.cell (k := 4) rfl
  have x5 := C6.out.cell (k := 5) rfl
  have x6 := C6.out.cell (k := 6) rfl
  clear hv hb hr6 F5 D5 A5 C5
  go_wp2_with fail
  refine S7.out.mono ?_
  rintro e w8 ⟨rfl, hb⟩
  have B8 := Lib.hid (below_tr B6.out (below_tr A7.out hb A7.out.size) B6.out.size)
  clear hb S7
  go_wp2_with fail
  go_ret
  exact ⟨rfl, B8.out⟩
end Go.Proofs.YtakgebbeknfplaaGreat
