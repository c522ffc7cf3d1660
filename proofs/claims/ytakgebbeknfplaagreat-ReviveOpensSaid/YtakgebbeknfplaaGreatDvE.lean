/-
  AN OPENING: what the program reads, what the document reads; both openings: the walks.
-/
import Derived.Test.YtakgebbeknfplaaGreatDvD
import Derived.Test.YtakgebbeknfplaaGreatKyE
import Derived.Great.Walk
namespace Go.Proofs.YtakgebbeknfplaaGreat
open Go.RowKit Go.ChangeShapes Go.WideShapes
set_option linter.unusedVariables false
set_option linter.unusedSimpArgs false

theorem exec_allocB {P : Program} {r : Operand → Value} {o : Oper} (T : TypeId) (ho : o.op = .alloc T) (i : TypeInfo) (z : Value) (hi : P.info? T = some i) (hz : i.zero = some z) (W : World) :
    (execOp r o).run P W = .ok (.value (.pointer (some ⟨W.heap.size, 0, none⟩))) (W.alloc (.cells z.cells T)) := by
  unfold execOp
  simp [ho, Instr.alloc, zeroValue, typeInfo, hi, hz, newVar, go_sem]
theorem wpList_allocZ {ops : Array Oper} {rest : List Oper} {o : Oper} {a : Act} {w : World} {Q : Exit → Act → World → Prop} (hgd : o.guard = none) (T : TypeId) (ho : o.op = .alloc T) (n : Nat)
    (hz : (Tryz.prog.info? T).map (·.zero) = some (some (.agg (bts (zeros n)))))
    (h : wpList Tryz.prog ops Q rest (a.put o.dst (.pointer (some ⟨w.heap.size, 0, none⟩))) (w.alloc (.cells (bts (zeros n)) T))) : wpList Tryz.prog ops Q (o :: rest) a w := by
  refine wpList_plain hgd fun K hK => ?_
  cases hi : Tryz.prog.info? T with
  | none => rw [hi] at hz; cases hz
  | some i =>
    rw [hi] at hz
    have hz' : i.zero = some (.agg (bts (zeros n))) := by simpa using hz
    have hrun := exec_allocB (r := a.eval) T ho i _ hi hz' w
    unfold Oper.wp
    rw [hrun]
    exact hK _ _ h
theorem zeroBlkT : (Tryz.prog.info? 179).map (·.zero) = some (some (.agg (bts (zeros 256)))) := by kernel_rfl
theorem szBlkT : (Tryz.prog.info? 179).map (·.size) = some 256 := by kernel_rfl
/-- what an opening answers -/
def openR (l : RgL) (com : Nat) (L : List Nat) : OpnR :=
  if (mOpenP l ((com % 2 : Nat) : Int) (blkL L (com % 2))).err = 0 ∧ (mOpenP l ((com % 2 : Nat) : Int) (blkL L (com % 2))).m.cm = com then ⟨(mOpenP l ((com % 2 : Nat) : Int) (blkL L (com % 2))).m, 0⟩ else ⟨mp0, 210⟩
section
variable (B d g1 g2 : Nat) (st cut : Int) (L : List Nat) (w : World)
set_option maxRecDepth 100000 in
theorem has_anyE (down : Bool) (i : Nat) (hi : i < 8) (h : DkB w B d g1 g2 st cut down L) :
    Calls Tryz.prog 82 #[.pointer (some ⟨d, 0, none⟩), .int .i64 (i : Int)] w fun e w' => e = .returned (.bool true) ∧ w = w' := by
  have c0 := h.box.cell (k := 0) rfl
  have h0 : (0 : Int) ≤ (i : Int) := by omega
  have h1 : (i : Int) < 8 := by omega
  clear h hi
  go_enter Tryz.func82, Tryz.ntmps82
  go_wp2_with fail
  go_ret
  exact ⟨rfl, rfl⟩
set_option maxRecDepth 100000 in
theorem dread_down (i : Nat) (hi : i < 8) (h : DkB w B d g1 g2 st cut true L) :
    Calls Tryz.prog 86 #[.pointer (some ⟨d, 0, none⟩), .int .i64 (i : Int)] w fun e w' => e = .returned (.tuple #[.slice none 0 0, .int .i64 81]) ∧ w = w' := by
  have HH := Lib.hid (has_anyE B d g1 g2 st cut L w true i hi h)
  have c6 := h.box.cell (k := 6) rfl
  clear h hi
  go_enter Tryz.func86, Tryz.ntmps86
  go_wp2_with fail
  refine HH.out.mono ?_
  rintro e w1 ⟨rfl, rfl⟩
  go_wp2_with fail
  go_ret2
  exact ⟨rfl, rfl⟩
set_option maxRecDepth 100000 in
theorem dread_any (i : Nat) (hi : i < 8) (h : DkB w B d g1 g2 st cut false L) :
    Calls Tryz.prog 86 #[.pointer (some ⟨d, 0, none⟩), .int .i64 (i : Int)] w fun e w' => ∃ g, e = .returned (.tuple #[.slice (some ⟨g, 0, none⟩) 256 256, .int .i64 0]) ∧ IsB w' (some ⟨g, 0, none⟩) 256 256 (blkL L i) ∧ Below w.heap.size w w' := by
  have HH := Lib.hid (has_anyE B d g1 g2 st cut L w false i hi h)
  have c6 := h.box.cell (k := 6) rfl
  have c0 := h.box.cell (k := 0) rfl
  have i0 : (0 : Int) ≤ (i : Int) := by omega
  have i1 : (i : Int) < 8 := by omega
  have HD := Lib.hid h
  clear h
  go_enter Tryz.func86, Tryz.ntmps86
  go_wp2_with fail
  refine HH.out.mono ?_
  rintro e w1 ⟨rfl, rfl⟩
  have BL := Lib.hid (blkL_len HD.out.len hi)
  clear HH
  go_wp2_with (first
    | (with_reducible refine wpList_loadSub (o := ⟨some 26, .load _ _, _, _, _, _⟩) ?_ 179 (.tmp 25) ?_ ⟨g1, i * 256, none⟩ ?_ (bts (blkL L i)) (.array 256 5) (HD.out.now.sub i) Tryz.underlying179 ?_ ?_ ?_
       · rfl
       · rfl
       · rfl
       · rfl
       · rw [bts_size, BL.out]; exact szBlkT)
    | (with_reducible refine wpList_allocZ (o := ⟨some 6, .alloc _, _, _, _, _⟩) ?_ 179 ?_ 256 zeroBlkT ?_
       · rfl
       · rfl)
    | (with_reducible refine wpList_storeN (o := ⟨none, .store _ (.tmp 6) (.tmp 26), _, _, _, _⟩) ?_ 179 (.tmp 6) (.tmp 26) ?_ w.heap.size ?_ (blkL L i) ?_ (Bk.new w 179 (zeros 256)) ?_ ?_ ?_
       · rfl
       · rfl
       · rfl
       · rfl
       · rw [BL.out]; exact szBlkT
       · rw [BL.out]; rfl
       intro w2 hw2))
  go_ret2
  exact ⟨_, rfl, isB_whole ((Bk.new _ _ _).row _) (blkL_byt HD.out.byt) BL.out (by decide), Below.row ((Below.refl _ _).alloc (Nat.le_refl _) _) (Nat.le_refl _) _⟩
set_option maxRecDepth 100000 in
theorem committedX (r lim : Nat) (res : Int) (com : Nat) (W : World) (h : RsB W r d lim res com) :
    Calls Tryz.prog 85 #[.pointer (some ⟨r, 0, none⟩)] W fun e w' => e = .returned (.int .u64 (com : Int)) ∧ W = w' := by
  have hb : CbB W r 166 _ := h
  have hc := hb.cell (k := 3) rfl
  clear h hb
  go_enter Tryz.func85, Tryz.ntmps85
  go_wp2_with fail
  go_ret
  exact ⟨rfl, rfl⟩
end
-- GENERATED
def opnA (down : Bool) (l : RgL) (com : Nat) (L : List Nat) : OpnR := if com = 0 then ⟨mp0, 0⟩ else match down with | true => ⟨mp0, 81⟩ | false => openR l com L
set_option maxRecDepth 100000 in
theorem vres_open (tmps : Array Value) (g6 : Nat) (W : World) (m : Mp) (err : Nat) (h6 : tmps[6]?.getD undef = .pointer (some ⟨g6, 0, none⟩)) (h7 : tmps[7]?.getD undef = .int .i64 (err : Int))
    (hm : MpB W g6 m) : (results Tryz.f26 tmps).run Tryz.prog W = .ok (opnV ⟨m, err⟩) W := by
  obtain ⟨c0, c1, c2, c3, c4, c5, c6⟩ := hm.cells
  simp [results, Tryz.results26, h6, h7, go_sem, c0, c1, c2, c3, c4, c5, c6, opnV, mpv]
set_option maxRecDepth 100000 in
theorem vopen0_any (r d lim : Nat) (res : Int) (dd g : Nat) (w : World) (h : RsB w r d lim res 0) :
    Calls Tryz.prog 26 #[.pointer (some ⟨dd, 0, none⟩), .pointer (some ⟨r, 0, none⟩), .pointer (some ⟨g, 0, none⟩)] w fun e w' => e = .returned (opnV ⟨mp0, 0⟩) ∧ Below w.heap.size w w' := by
  have B0 : Hid (Below w.heap.size w (w.alloc (.cells #[.int .u64 0, .int .u32 0, .int .u64 0, .int .u16 0, .int .u8 0, .int .u16 0, .int .u32 0] 63))) := Lib.hid ((Below.refl _ _).alloc (Nat.le_refl _) _)
  have Q0 : Hid (CbB (w.alloc (.cells #[.int .u64 0, .int .u32 0, .int .u64 0, .int .u16 0, .int .u8 0, .int .u16 0, .int .u32 0] 63)) w.heap.size 63 (mpv mp0)) := Lib.hid (CbB.new _ _ _)
  have HC := Lib.hid (committedX d r lim res 0 _ (show RsB _ r d lim res 0 from CbB.ab (show CbB w r 166 _ from h) B0.out))
  clear h
  go_enter Tryz.func26, Tryz.ntmps26
  go_wp2_with fail
  refine HC.out.mono ?_
  rintro e w1 ⟨rfl, rfl⟩
  clear HC
  go_wp2_with fail
  exact bodyPost_ret (vres_open _ w.heap.size _ mp0 0 rfl rfl Q0.out) rfl ⟨rfl, B0.out⟩
set_option maxRecDepth 100000 in
set_option maxHeartbeats 4000000 in
theorem vopen_down (B d g1 g2 : Nat) (st cut : Int) (L : List Nat) (w : World) (r lim : Nat) (res : Int) (com Bg g m : Nat) (l : RgL) (h : DkB w B d g1 g2 st cut true L) (hr : RsB w r d lim res com) (hg : RgB w Bg g m l) (hc64 : com < 18446744073709551616) (hc : 0 < com) :
    Calls Tryz.prog 26 #[.pointer (some ⟨d, 0, none⟩), .pointer (some ⟨r, 0, none⟩), .pointer (some ⟨g, 0, none⟩)] w fun e w' => e = .returned (opnV ⟨mp0, 81⟩) ∧ Below w.heap.size w w' := by
  have B0 : Hid (Below w.heap.size w (w.alloc (.cells #[.int .u64 0, .int .u32 0, .int .u64 0, .int .u16 0, .int .u8 0, .int .u16 0, .int .u32 0] 63))) := Lib.hid ((Below.refl _ _).alloc (Nat.le_refl _) _)
  have Q0 : Hid (CbB (w.alloc (.cells #[.int .u64 0, .int .u32 0, .int .u64 0, .int .u16 0, .int .u8 0, .int .u16 0, .int .u32 0] 63)) w.heap.size 63 (mpv mp0)) := Lib.hid (CbB.new _ _ _)
  have HC := Lib.hid (committedX d r lim res com _ (show RsB _ r d lim res com from CbB.ab (show CbB w r 166 _ from hr) B0.out))
  obtain ⟨s, hs⟩ : ∃ s, com % 2 = s := ⟨_, rfl⟩
  have HR := Lib.hid (dread_down B d g1 g2 st cut L _ s (by omega) (h.ab B0.out))
  have hm : (com : Int) % 2 = (s : Int) := by omega
  have hm0 : (0 : Int) ≤ (s : Int) := by omega
  have hm1 : (s : Int) < 2 := by omega
  have hne : ¬ (com : Int) = 0 := by omega
  have hne2 : decide ((com : Int) = 0) = false := by simp; omega
  clear h hr hg hc hc64 hs
  go_enter Tryz.func26, Tryz.ntmps26
  go_wp2_with fail
  refine HC.out.mono ?_
  rintro e w1 ⟨rfl, rfl⟩
  clear HC
  go_wp2_with fail
  refine HR.out.mono ?_
  rintro e w1 ⟨rfl, rfl⟩
  clear HR
  go_wp2_with fail
  exact bodyPost_ret (vres_open _ w.heap.size _ mp0 81 rfl rfl Q0.out) rfl ⟨rfl, B0.out⟩
set_option maxRecDepth 100000 in
set_option maxHeartbeats 8000000 in
theorem vopen_up (B d g1 g2 : Nat) (st cut : Int) (L : List Nat) (w : World) (r lim : Nat) (res : Int) (com Bg g m : Nat) (l : RgL) (h : DkB w B d g1 g2 st cut false L) (hr : RsB w r d lim res com) (hg : RgB w Bg g m l) (hc64 : com < 18446744073709551616) (hc : 0 < com) :
    Calls Tryz.prog 26 #[.pointer (some ⟨d, 0, none⟩), .pointer (some ⟨r, 0, none⟩), .pointer (some ⟨g, 0, none⟩)] w fun e w' => e = .returned (opnV (openR l com L)) ∧ Below w.heap.size w w' := by
  have B0 : Hid (Below w.heap.size w (w.alloc (.cells #[.int .u64 0, .int .u32 0, .int .u64 0, .int .u16 0, .int .u8 0, .int .u16 0, .int .u32 0] 63))) := Lib.hid ((Below.refl _ _).alloc (Nat.le_refl _) _)
  have Q0 : Hid (CbB (w.alloc (.cells #[.int .u64 0, .int .u32 0, .int .u64 0, .int .u16 0, .int .u8 0, .int .u16 0, .int .u32 0] 63)) w.heap.size 63 (mpv mp0)) := Lib.hid (CbB.new _ _ _)
  have HC := Lib.hid (committedX d r lim res com _ (show RsB _ r d lim res com from CbB.ab (show CbB w r 166 _ from hr) B0.out))
  unfold openR
  obtain ⟨s, hs⟩ : ∃ s, com % 2 = s := ⟨_, rfl⟩
  rw [hs]
  have HR := Lib.hid (dread_any B d g1 g2 st cut L _ s (by omega) (h.ab B0.out))
  have HG := Lib.hid (hg.ab B0.out)
  have HM := Lib.hid fun A n c W h1 h2 => mOpen_any Bg g m (s : Int) l A n c (blkL L s) W h1 h2
  have hm : (com : Int) % 2 = (s : Int) := by omega
  have hm0 : (0 : Int) ≤ (s : Int) := by omega
  have hm1 : (s : Int) < 2 := by omega
  have hne : ¬ (com : Int) = 0 := by omega
  have hne2 : decide ((com : Int) = 0) = false := by simp; omega
  obtain ⟨rr, hrr⟩ : ∃ rr : OpnR, rr = (if (mOpenP l (s : Int) (blkL L s)).err = 0 ∧ (mOpenP l (s : Int) (blkL L s)).m.cm = com then ⟨(mOpenP l (s : Int) (blkL L s)).m, 0⟩ else ⟨mp0, 210⟩) := ⟨_, rfl⟩
  rw [← hrr]
  generalize mOpenP l (s : Int) (blkL L s) = D at *
  obtain ⟨⟨d0, d1, d2, d3, d4, d5, d6⟩, er⟩ := D
  simp only at hrr
  have HRR := Lib.hid hrr
  have HV : Hid (opnV ⟨⟨d0, d1, d2, d3, d4, d5, d6⟩, er⟩ = .tuple #[.agg #[.int .u64 (d0 : Int), .int .u32 (d1 : Int), .int .u64 (d2 : Int), .int .u16 (d3 : Int), .int .u8 (d4 : Int), .int .u16 (d5 : Int), .int .u32 (d6 : Int)], .int .i64 (er : Int)]) := Lib.hid rfl
  clear h hr hg hc hc64 hs hrr
  go_enter Tryz.func26, Tryz.ntmps26
  go_wp2_with fail
  refine HC.out.mono ?_
  rintro e w1 ⟨rfl, rfl⟩
  clear HC
  go_wp2_with fail
  refine HR.out.mono ?_
  rintro e w1 ⟨gb, rfl, ib, hb⟩
  have G1 := Lib.hid (HG.out.ab hb)
  have Q1 := Lib.hid (Q0.out.ab hb)
  have B1 := Lib.hid (below_tr B0.out hb B0.out.size)
  have IB := Lib.hid ib
  clear ib hb HG HR B0 Q0
  go_wp2_with fail
  refine (HM.out _ _ _ _ G1.out IB.out).mono ?_
  rw [HV.out]
  rintro e w2 ⟨rfl, hb⟩
  have Q2 := Lib.hid (Q1.out.ab hb)
  have B2 := Lib.hid (below_tr B1.out hb B1.out.size)
  have Z2 : Hid (w.heap.size < w2.heap.size) := Lib.hid Q2.out.lt
  clear hb G1 IB HM HV Q1 B1
  have Q3 : Hid (CbB (w2.alloc (.cells #[.int .u64 (d0 : Int), .int .u32 (d1 : Int), .int .u64 (d2 : Int), .int .u16 (d3 : Int), .int .u8 (d4 : Int), .int .u16 (d5 : Int), .int .u32 (d6 : Int)] 63)) w.heap.size 63 (mpv mp0)) := Lib.hid (Q2.out.ab ((Below.refl _ _).alloc (Nat.le_refl _) _))
  have B3 : Hid (Below w.heap.size w (w2.alloc (.cells #[.int .u64 (d0 : Int), .int .u32 (d1 : Int), .int .u64 (d2 : Int), .int .u16 (d3 : Int), .int .u8 (d4 : Int), .int .u16 (d5 : Int), .int .u32 (d6 : Int)] 63))) := Lib.hid (B2.out.alloc B2.out.size _)
  by_cases hok : er = 0 ∧ d0 = com
  · have HRE : Hid (rr = ⟨⟨d0, d1, d2, d3, d4, d5, d6⟩, 0⟩) := Lib.hid (HRR.out.trans (if_pos hok))
    obtain ⟨rfl, rfl⟩ := hok
    clear HRR
    go_wp2_with (first
      | (with_reducible refine wpList_storeC (o := ⟨none, .store _ (.tmp 6) (.tmp 58), _, _, _, _⟩) ?_ 63 (.tmp 6) (.tmp 58) ?_ w.heap.size ?_ (mpv ⟨d0, d1, d2, d3, d4, d5, d6⟩) ?_ (cs := mpv mp0) (t := 63) Q3.out (szMp _) ?_ (mpv_one _) ?_
         · rfl
         · rfl
         · rfl
         · rfl
         · rfl
         intro w7 hw7
         have Q7 : Hid (MpB w7 w.heap.size ⟨d0, d1, d2, d3, d4, d5, d6⟩) := Lib.hid (by rw [hw7]; exact CbB.row Q3.out _)
         have B7 : Hid (Below w.heap.size w w7) := Lib.hid (by rw [hw7]; exact Below.row B3.out (Nat.le_refl _) _)
         clear hw7))
    exact bodyPost_ret (vres_open _ w.heap.size _ ⟨d0, d1, d2, d3, d4, d5, d6⟩ 0 rfl rfl Q7.out) rfl ⟨by rw [HRE.out], B7.out⟩
  · have HRE : Hid (rr = ⟨mp0, 210⟩) := Lib.hid (HRR.out.trans (if_neg hok))
    have hcs : ((er : Int) != 0) = true ∨ (((er : Int) != 0) = false ∧ ((d0 : Int) != (com : Int)) = true) := by
      by_cases f1 : er = 0
      · right
        have : d0 ≠ com := fun e => hok ⟨f1, e⟩
        exact ⟨by simp [f1], by simp; omega⟩
      · left
        simp [f1]
    clear hok
    rcases hcs with f1 | ⟨f1, f2⟩
    all_goals
      go_wp2_with (first
        | (with_reducible refine wpList_storeC (o := ⟨none, .store _ (.tmp 6) (.tmp 57), _, _, _, _⟩) ?_ 63 (.tmp 6) (.tmp 57) ?_ w.heap.size ?_ (mpv mp0) ?_ (cs := mpv mp0) (t := 63) Q3.out (szMp _) ?_ (mpv_one _) ?_
           · rfl
           · rfl
           · rfl
           · rfl
           · rfl
           intro w7 hw7
           have Q7 : Hid (MpB w7 w.heap.size mp0) := Lib.hid (by rw [hw7]; exact CbB.row Q3.out _)
           have B7 : Hid (Below w.heap.size w w7) := Lib.hid (by rw [hw7]; exact Below.row B3.out (Nat.le_refl _) _)
           clear hw7))
      exact bodyPost_ret (vres_open _ w.heap.size _ mp0 210 rfl rfl Q7.out) rfl ⟨by rw [HRE.out], B7.out⟩
theorem vopen_all (B d g1 g2 : Nat) (st cut : Int) (L : List Nat) (w : World) (down : Bool) (r lim : Nat) (res : Int) (com Bg g m : Nat) (l : RgL) (h : DkB w B d g1 g2 st cut down L) (hr : RsB w r d lim res com) (hg : RgB w Bg g m l) (hc64 : com < 18446744073709551616) :
    Calls Tryz.prog 26 #[.pointer (some ⟨d, 0, none⟩), .pointer (some ⟨r, 0, none⟩), .pointer (some ⟨g, 0, none⟩)] w fun e w' => e = .returned (opnV (opnA down l com L)) ∧ Below w.heap.size w w' := by
  unfold opnA
  by_cases hc : 0 < com
  · rw [if_neg (by omega)]
    cases down with
    | true => exact vopen_down B d g1 g2 st cut L w r lim res com Bg g m l h hr hg hc64 hc
    | false => exact vopen_up B d g1 g2 st cut L w r lim res com Bg g m l h hr hg hc64 hc
  · obtain rfl : com = 0 := by omega
    rw [if_pos rfl]
    exact vopen0_any r d lim res d g w hr
set_option maxRecDepth 100000 in
theorem rres_open (tmps : Array Value) (g6 : Nat) (W : World) (m : Mp) (err : Nat) (h6 : tmps[6]?.getD undef = .pointer (some ⟨g6, 0, none⟩)) (h7 : tmps[7]?.getD undef = .int .i64 (err : Int))
    (hm : MpB W g6 m) : (results Tryz.f27 tmps).run Tryz.prog W = .ok (opnV ⟨m, err⟩) W := by
  obtain ⟨c0, c1, c2, c3, c4, c5, c6⟩ := hm.cells
  simp [results, Tryz.results27, h6, h7, go_sem, c0, c1, c2, c3, c4, c5, c6, opnV, mpv]
set_option maxRecDepth 100000 in
theorem ropen0_any (p1 p2 : Value) (w : World) : Calls Tryz.prog 27 #[p1, .int .u64 0, p2] w fun e w' => e = .returned (opnV ⟨mp0, 0⟩) ∧ Below w.heap.size w w' := by
  have B0 : Hid (Below w.heap.size w (w.alloc (.cells #[.int .u64 0, .int .u32 0, .int .u64 0, .int .u16 0, .int .u8 0, .int .u16 0, .int .u32 0] 63))) := Lib.hid ((Below.refl _ _).alloc (Nat.le_refl _) _)
  have Q0 : Hid (CbB (w.alloc (.cells #[.int .u64 0, .int .u32 0, .int .u64 0, .int .u16 0, .int .u8 0, .int .u16 0, .int .u32 0] 63)) w.heap.size 63 (mpv mp0)) := Lib.hid (CbB.new _ _ _)
  go_enter Tryz.func27, Tryz.ntmps27
  go_wp2_with fail
  exact bodyPost_ret (rres_open _ w.heap.size _ mp0 0 rfl rfl Q0.out) rfl ⟨rfl, B0.out⟩
set_option maxRecDepth 100000 in
set_option maxHeartbeats 4000000 in
theorem ropen_down (B g : Nat) (v1 v2 : Value) (b1 b2 : List Nat) (st cut : Int) (L : List Nat) (w : World) (com Bg g2 : Nat) (v : Value) (vs : List ((Nat × Nat) × Value)) (l : RgL) (h : RdB w B g v1 v2 b1 b2 st cut true L) (hL : L.length = 2048) (hby : Byt L) (hl1 : b1.length = 8) (hg : RkB w Bg g2 v vs l) (h1000 : l.length ≤ 1000) (hc64 : com < 18446744073709551616) (hc : 0 < com) :
    Calls Tryz.prog 27 #[.pointer (some ⟨g, 0, none⟩), .int .u64 (com : Int), .pointer (some ⟨g2, 0, none⟩)] w fun e w' => e = .returned (opnV ⟨mp0, 81⟩) ∧ Below w.heap.size w w' := by
  have B0 : Hid (Below w.heap.size w (w.alloc (.cells #[.int .u64 0, .int .u32 0, .int .u64 0, .int .u16 0, .int .u8 0, .int .u16 0, .int .u32 0] 63))) := Lib.hid ((Below.refl _ _).alloc (Nat.le_refl _) _)
  have Q0 : Hid (CbB (w.alloc (.cells #[.int .u64 0, .int .u32 0, .int .u64 0, .int .u16 0, .int .u8 0, .int .u16 0, .int .u32 0] 63)) w.heap.size 63 (mpv mp0)) := Lib.hid (CbB.new _ _ _)
  obtain ⟨s, hs⟩ : ∃ s, com % 2 = s := ⟨_, rfl⟩
  have HR := Lib.hid (rread_down B g v1 v2 b1 b2 st cut L _ s (by omega) (h.ab B0.out) hl1)
  have hm : (com : Int) % 2 = (s : Int) := by omega
  have hm0 : (0 : Int) ≤ (s : Int) := by omega
  have hm1 : (s : Int) < 2 := by omega
  have hne : ¬ (com : Int) = 0 := by omega
  have hne2 : decide ((com : Int) = 0) = false := by simp; omega
  clear h hL hby hl1 hg h1000 hc hc64 hs
  go_enter Tryz.func27, Tryz.ntmps27
  go_wp2_with fail
  refine HR.out.mono ?_
  rintro e w1 ⟨rfl, rfl⟩
  clear HR
  go_wp2_with fail
  exact bodyPost_ret (rres_open _ w.heap.size _ mp0 81 rfl rfl Q0.out) rfl ⟨rfl, B0.out⟩
set_option maxRecDepth 100000 in
set_option maxHeartbeats 8000000 in
theorem ropen_up (B g : Nat) (v1 v2 : Value) (b1 b2 : List Nat) (st cut : Int) (L : List Nat) (w : World) (com Bg g2 : Nat) (v : Value) (vs : List ((Nat × Nat) × Value)) (l : RgL) (h : RdB w B g v1 v2 b1 b2 st cut false L) (hL : L.length = 2048) (hby : Byt L) (hl1 : b1.length = 8) (hg : RkB w Bg g2 v vs l) (h1000 : l.length ≤ 1000) (hc64 : com < 18446744073709551616) (hc : 0 < com) :
    Calls Tryz.prog 27 #[.pointer (some ⟨g, 0, none⟩), .int .u64 (com : Int), .pointer (some ⟨g2, 0, none⟩)] w fun e w' => e = .returned (opnV (openR l com L)) ∧ Below w.heap.size w w' := by
  have B0 : Hid (Below w.heap.size w (w.alloc (.cells #[.int .u64 0, .int .u32 0, .int .u64 0, .int .u16 0, .int .u8 0, .int .u16 0, .int .u32 0] 63))) := Lib.hid ((Below.refl _ _).alloc (Nat.le_refl _) _)
  have Q0 : Hid (CbB (w.alloc (.cells #[.int .u64 0, .int .u32 0, .int .u64 0, .int .u16 0, .int .u8 0, .int .u16 0, .int .u32 0] 63)) w.heap.size 63 (mpv mp0)) := Lib.hid (CbB.new _ _ _)
  unfold openR
  obtain ⟨s, hs⟩ : ∃ s, com % 2 = s := ⟨_, rfl⟩
  rw [hs]
  have HR := Lib.hid (rread_any B g v1 v2 b1 b2 st cut L _ s (by omega) (h.ab B0.out) hL hby hl1)
  have HG := Lib.hid (hg.ab B0.out)
  have HM := Lib.hid fun A n c W h1 h2 => rOpen_any Bg g2 (s : Int) v vs l A n c (blkL L s) W h1 h1000 h2
  have hm : (com : Int) % 2 = (s : Int) := by omega
  have hm0 : (0 : Int) ≤ (s : Int) := by omega
  have hm1 : (s : Int) < 2 := by omega
  have hne : ¬ (com : Int) = 0 := by omega
  have hne2 : decide ((com : Int) = 0) = false := by simp; omega
  obtain ⟨rr, hrr⟩ : ∃ rr : OpnR, rr = (if (mOpenP l (s : Int) (blkL L s)).err = 0 ∧ (mOpenP l (s : Int) (blkL L s)).m.cm = com then ⟨(mOpenP l (s : Int) (blkL L s)).m, 0⟩ else ⟨mp0, 210⟩) := ⟨_, rfl⟩
  rw [← hrr]
  generalize mOpenP l (s : Int) (blkL L s) = D at *
  obtain ⟨⟨d0, d1, d2, d3, d4, d5, d6⟩, er⟩ := D
  simp only at hrr
  have HRR := Lib.hid hrr
  have HV : Hid (opnV ⟨⟨d0, d1, d2, d3, d4, d5, d6⟩, er⟩ = .tuple #[.agg #[.int .u64 (d0 : Int), .int .u32 (d1 : Int), .int .u64 (d2 : Int), .int .u16 (d3 : Int), .int .u8 (d4 : Int), .int .u16 (d5 : Int), .int .u32 (d6 : Int)], .int .i64 (er : Int)]) := Lib.hid rfl
  clear h hL hby hl1 hg h1000 hc hc64 hs hrr
  go_enter Tryz.func27, Tryz.ntmps27
  go_wp2_with fail
  refine HR.out.mono ?_
  rintro e w1 ⟨gb, rfl, ib, hb⟩
  have G1 := Lib.hid (HG.out.ab hb)
  have Q1 := Lib.hid (Q0.out.ab hb)
  have B1 := Lib.hid (below_tr B0.out hb B0.out.size)
  have IB := Lib.hid ib
  clear ib hb HG HR B0 Q0
  go_wp2_with fail
  refine (HM.out _ _ _ _ G1.out IB.out).mono ?_
  rw [HV.out]
  rintro e w2 ⟨rfl, hb⟩
  have Q2 := Lib.hid (Q1.out.ab hb)
  have B2 := Lib.hid (below_tr B1.out hb B1.out.size)
  have Z2 : Hid (w.heap.size < w2.heap.size) := Lib.hid Q2.out.lt
  clear hb G1 IB HM HV Q1 B1
  have Q3 : Hid (CbB (w2.alloc (.cells #[.int .u64 (d0 : Int), .int .u32 (d1 : Int), .int .u64 (d2 : Int), .int .u16 (d3 : Int), .int .u8 (d4 : Int), .int .u16 (d5 : Int), .int .u32 (d6 : Int)] 63)) w.heap.size 63 (mpv mp0)) := Lib.hid (Q2.out.ab ((Below.refl _ _).alloc (Nat.le_refl _) _))
  have B3 : Hid (Below w.heap.size w (w2.alloc (.cells #[.int .u64 (d0 : Int), .int .u32 (d1 : Int), .int .u64 (d2 : Int), .int .u16 (d3 : Int), .int .u8 (d4 : Int), .int .u16 (d5 : Int), .int .u32 (d6 : Int)] 63))) := Lib.hid (B2.out.alloc B2.out.size _)
  by_cases hok : er = 0 ∧ d0 = com
  · have HRE : Hid (rr = ⟨⟨d0, d1, d2, d3, d4, d5, d6⟩, 0⟩) := Lib.hid (HRR.out.trans (if_pos hok))
    obtain ⟨rfl, rfl⟩ := hok
    clear HRR
    go_wp2_with (first
      | (with_reducible refine wpList_storeC (o := ⟨none, .store _ (.tmp 6) (.tmp 44), _, _, _, _⟩) ?_ 63 (.tmp 6) (.tmp 44) ?_ w.heap.size ?_ (mpv ⟨d0, d1, d2, d3, d4, d5, d6⟩) ?_ (cs := mpv mp0) (t := 63) Q3.out (szMp _) ?_ (mpv_one _) ?_
         · rfl
         · rfl
         · rfl
         · rfl
         · rfl
         intro w7 hw7
         have Q7 : Hid (MpB w7 w.heap.size ⟨d0, d1, d2, d3, d4, d5, d6⟩) := Lib.hid (by rw [hw7]; exact CbB.row Q3.out _)
         have B7 : Hid (Below w.heap.size w w7) := Lib.hid (by rw [hw7]; exact Below.row B3.out (Nat.le_refl _) _)
         clear hw7))
    exact bodyPost_ret (rres_open _ w.heap.size _ ⟨d0, d1, d2, d3, d4, d5, d6⟩ 0 rfl rfl Q7.out) rfl ⟨by rw [HRE.out], B7.out⟩
  · have HRE : Hid (rr = ⟨mp0, 210⟩) := Lib.hid (HRR.out.trans (if_neg hok))
    have hcs : ((er : Int) != 0) = true ∨ (((er : Int) != 0) = false ∧ ((d0 : Int) != (com : Int)) = true) := by
      by_cases f1 : er = 0
      · right
        have : d0 ≠ com := fun e => hok ⟨f1, e⟩
        exact ⟨by simp [f1], by simp; omega⟩
      · left
        simp [f1]
    clear hok
    rcases hcs with f1 | ⟨f1, f2⟩
    all_goals
      go_wp2_with (first
        | (with_reducible refine wpList_storeC (o := ⟨none, .store _ (.tmp 6) (.tmp 43), _, _, _, _⟩) ?_ 63 (.tmp 6) (.tmp 43) ?_ w.heap.size ?_ (mpv mp0) ?_ (cs := mpv mp0) (t := 63) Q3.out (szMp _) ?_ (mpv_one _) ?_
           · rfl
           · rfl
           · rfl
           · rfl
           · rfl
           intro w7 hw7
           have Q7 : Hid (MpB w7 w.heap.size mp0) := Lib.hid (by rw [hw7]; exact CbB.row Q3.out _)
           have B7 : Hid (Below w.heap.size w w7) := Lib.hid (by rw [hw7]; exact Below.row B3.out (Nat.le_refl _) _)
           clear hw7))
      exact bodyPost_ret (rres_open _ w.heap.size _ mp0 210 rfl rfl Q7.out) rfl ⟨by rw [HRE.out], B7.out⟩
theorem ropen_all (B g : Nat) (v1 v2 : Value) (b1 b2 : List Nat) (st cut : Int) (down : Bool) (L : List Nat) (w : World) (com Bg g2 : Nat) (v : Value) (vs : List ((Nat × Nat) × Value)) (l : RgL) (h : RdB w B g v1 v2 b1 b2 st cut down L) (hL : L.length = 2048) (hby : Byt L) (hl1 : b1.length = 8) (hg : RkB w Bg g2 v vs l) (h1000 : l.length ≤ 1000) (hc64 : com < 18446744073709551616) :
    Calls Tryz.prog 27 #[.pointer (some ⟨g, 0, none⟩), .int .u64 (com : Int), .pointer (some ⟨g2, 0, none⟩)] w fun e w' => e = .returned (opnV (opnA down l com L)) ∧ Below w.heap.size w w' := by
  unfold opnA
  by_cases hc : 0 < com
  · rw [if_neg (by omega)]
    cases down with
    | true => exact ropen_down B g v1 v2 b1 b2 st cut L w com Bg g2 v vs l h hL hby hl1 hg h1000 hc64 hc
    | false => exact ropen_up B g v1 v2 b1 b2 st cut L w com Bg g2 v vs l h hL hby hl1 hg h1000 hc64 hc
  · obtain rfl : com = 0 := by omega
    rw [if_pos rfl]
    exact ropen0_any _ _ w
section
variable {w w2 : World} {B g : Nat} {v1 v2 : Value} {b1 b2 : List Nat} {st cut : Int} {down : Bool} {L : List Nat}
theorem RdB.field (h : RdB w B g v1 v2 b1 b2 st cut down L) (hf : Fr w w2 (fun k => k = g)) {st' cut' : Int} {down' : Bool} (hb : CbB w2 g 56 #[v1, v2, .slice none 0 0, .int .u64 st', .int .i64 0, .int .i64 cut', .bool down']) : RdB w2 B g v1 v2 b1 b2 st' cut' down' L := by
  have ng : ∀ {q : Nat} {l : List Nat}, Bk w q 5 l → q ≠ g := fun {q l} hq => Ne.symm (cb_ne h.box (show CbB w q _ _ from hq) (by decide))
  refine ⟨hb, row_fr h.own1 hf (fun k hk e => ?_), row_fr h.own2 hf (fun k hk e => ?_), h.ne12, fun i b hi => ?_, fun i b hi => ?_, h.nd, h.low⟩
  · subst e
    exact row_ne h.own1 h.box (by decide) hk
  · subst e
    exact row_ne h.own2 h.box (by decide) hk
  · obtain ⟨k1, k2⟩ := h.at1 i b hi
    exact ⟨k1, k2.fr hf (ng k2)⟩
  · obtain ⟨k1, l, k2, k3⟩ := h.at2 i b hi
    exact ⟨k1, l, k2.fr hf (ng k2), k3⟩
theorem RdB.cutz (h : RdB w B g v1 v2 b1 b2 st cut down L) : RdB (w.setCell ⟨g, 5, none⟩ (.int .i64 0)) B g v1 v2 b1 b2 st 0 down L := h.field (fr_cell _ _ _ _) (h.box.set 5 _)
end
section
variable (B g : Nat) (v1 v2 : Value) (b1 b2 : List Nat) (st : Int) (L : List Nat) (w : World)
set_option maxRecDepth 100000 in
theorem rstep_off (h : RdB w B g v1 v2 b1 b2 st 0 false L) :
    Calls Tryz.prog 25 #[.pointer (some ⟨g, 0, none⟩)] w fun e w' => e = .returned (.int .i64 81) ∧ RdB w' B g v1 v2 b1 b2 st 0 true L ∧ Fr w w' (fun k => k = g) := by
  have c5 := h.box.cell (k := 5) rfl
  have c6 := h.box.cell (k := 6) rfl
  have f6 := h.box.free 6
  have HH := Lib.hid h
  clear h
  go_enter Tryz.func25, Tryz.ntmps25
  go_wp2_with fail
  go_ret
  exact ⟨rfl, HH.out.field (fr_cell _ _ _ _) (HH.out.box.set 6 _), fr_cell _ _ _ _⟩
end
end Go.Proofs.YtakgebbeknfplaaGreat
