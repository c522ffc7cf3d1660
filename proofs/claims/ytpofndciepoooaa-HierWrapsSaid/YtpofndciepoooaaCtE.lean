/-
  WALKS: ctr.stream and the closure that it hands back.
-/
import Derived.Test.YtpofndciepoooaaCtP
import Derived.Test.YtpofndciepoooaaCtD
namespace Go.Proofs.Ytpofndciepoooaa
open Go.RowKit
set_option linter.unusedVariables false

/-- a store of bytes, the new world under a name of its own -/
theorem wpList_storeN {P : Program} {ops : Array Oper} {rest : List Oper} {o : Oper} {a : Act} {w : World} {Q : Exit → Act → World → Prop} (hgd : o.guard = none) (ty : TypeId) (x y : Operand) (ho : o.op = .store ty x y)
    (g : Nat) (hx : a.eval x = .pointer (some ⟨g, 0, none⟩)) (l' : List Nat) (hy : a.eval y = .agg (bts l')) {t : TypeId} {l : List Nat} (hg : Bk w g t l)
    (hi : (P.info? ty).map (·.size) = some l'.length) (hl : l.length = l'.length)
    (h : ∀ w2, w2 = w.setRow g (bts l') → wpList P ops Q rest (a.put o.dst undef) w2) : wpList P ops Q (o :: rest) a w :=
  wpList_storeB hgd ty x y ho g hx l' hy hg hi hl (h _ rfl)
/-- outside the blocks lo .. hi what was there is as it was -/
structure Outside (lo hi : Nat) (w w' : World) : Prop where
  os : w'.os = w.os
  tape : w'.tape = w.tape
  output : w'.output = w.output
  size : w.heap.size ≤ w'.heap.size
  block : ∀ k, k < w.heap.size → k < lo ∨ hi < k → w'.heap[k]? = w.heap[k]?
theorem Outside.below {lo hi B : Nat} {w0 w w' : World} (h : Outside lo hi w w') (hb : Below B w0 w) (hB : B ≤ lo) (hs : B ≤ w.heap.size) : Below B w0 w' :=
  hb.trans ⟨h.os, h.tape, h.output, h.size, fun k hk => h.block k (by omega) (.inl (by omega))⟩
theorem Outside.bk {lo hi b : Nat} {w w' : World} {t : TypeId} {l : List Nat} (h : Outside lo hi w w') (hk : Bk w b t l) (hb : b < lo ∨ hi < b) : Bk w' b t l := (h.block b hk.lt hb).trans hk
theorem Outside.isB {lo hi : Nat} {w w' : World} {A : Option Addr} {n c : Nat} {l : List Nat} (h : Outside lo hi w w') (hk : IsB w A n c l) (hb : ∀ x, A = some x → x.block < lo ∨ hi < x.block) : IsB w' A n c l :=
  ⟨hk.1.keep h.size fun x i e hi => World.cell?_of_block (by
    obtain ⟨y, e', hy, _⟩ := hk.1.at (by omega)
    rw [e] at e'
    injection e' with e'
    exact h.block _ (by rw [add_block, e']; exact hy) (by rw [add_block]; exact hb x e)), hk.2⟩

/-- the closure's variables: block number B is the cipher's, then the counter, the block and k -/
structure Strm (w : World) (B b g : Nat) (key at_ blk : List Nat) (k : Nat) : Prop where
  cc : w.heap[B]? = some (.cells #[.pointer (some ⟨g, 0, none⟩)] 88 (0, 0))
  ac : Bk w (B + 1) 23 at_
  bc : Bk w (B + 1 + 1) 23 blk
  kc : w.heap[B + 1 + 1 + 1]? = some (.cells #[.int .i64 (k : Int)] 3 (0, 0))
  cip : CipK w b g (key.length / 4) key
  lt : g < B
  bg : b < g
section
variable {w w' : World} {lo hi B b g k : Nat} {key at_ blk : List Nat}
theorem Outside.refl (lo hi : Nat) (w : World) : Outside lo hi w w := ⟨rfl, rfl, rfl, Nat.le_refl _, fun _ _ _ => rfl⟩
theorem Outside.call {w0 : World} (h : Outside lo hi w0 w) (hb : Below w.heap.size w w') : Outside lo hi w0 w' :=
  ⟨hb.os.trans h.os, hb.tape.trans h.tape, hb.output.trans h.output, Nat.le_trans h.size hb.size, fun j hj hx => (hb.block j (Nat.lt_of_lt_of_le hj h.size)).trans (h.block j hj hx)⟩
theorem Outside.row {w0 : World} (h : Outside lo hi w0 w) {c : Nat} (h1 : lo ≤ c) (h2 : c ≤ hi) (cs : Array Value) : Outside lo hi w0 (w.setRow c cs) :=
  ⟨h.os, h.tape, h.output, by simpa using h.size, fun j hj hx => (setRow_other w c j cs (by omega)).trans (h.block j hj hx)⟩
theorem Outside.setCell {w0 : World} (h : Outside lo hi w0 w) {c j : Nat} (h1 : lo ≤ c) (h2 : c ≤ hi) (u : Value) : Outside lo hi w0 (w.setCell ⟨c, j, none⟩ u) :=
  ⟨h.os, h.tape, h.output, by simpa [World.setCell] using h.size, fun i hi hx => (Below.heap_setCell w ⟨c, j, none⟩ u i (by show i ≠ c; omega)).trans (h.block i hi hx)⟩
theorem Strm.call (h : Strm w B b g key at_ blk k) (hb : Below w.heap.size w w') : Strm w' B b g key at_ blk k :=
  ⟨(hb.block _ (lt_of_block h.cc)).trans h.cc, h.ac.ab hb, h.bc.ab hb, (hb.block _ (lt_of_block h.kc)).trans h.kc, h.cip.ab hb, h.lt, h.bg⟩
theorem CipK.rowFar {K : Nat} {l : List Nat} (h : CipK w b g K l) {c : Nat} (h1 : b ≠ c) (h2 : g ≠ c) (cs : Array Value) : CipK (w.setRow c cs) b g K l :=
  ⟨h.wd.rowFar h1 cs, ⟨(setRow_other w c g cs h2).trans h.cip.row⟩⟩
theorem CipK.cellFar {K : Nat} {l : List Nat} (h : CipK w b g K l) {c j : Nat} (h1 : b ≠ c) (h2 : g ≠ c) (u : Value) : CipK (w.setCell ⟨c, j, none⟩ u) b g K l :=
  ⟨h.wd.far h1 u, ⟨(Below.heap_setCell w ⟨c, j, none⟩ u g h2).trans h.cip.row⟩⟩
theorem Strm.atRow (h : Strm w B b g key at_ blk k) (l : List Nat) : Strm (w.setRow (B + 1) (bts l)) B b g key l blk k :=
  have h1 := h.lt
  have h2 := h.bg
  ⟨(setRow_other w _ _ _ (by omega)).trans h.cc, h.ac.row l, h.bc.rowFar (by omega) _, (setRow_other w _ _ _ (by omega)).trans h.kc, h.cip.rowFar (by omega) (by omega) _, h.lt, h.bg⟩
theorem Strm.blkRow (h : Strm w B b g key at_ blk k) (l : List Nat) : Strm (w.setRow (B + 1 + 1) (bts l)) B b g key at_ l k :=
  have h1 := h.lt
  have h2 := h.bg
  ⟨(setRow_other w _ _ _ (by omega)).trans h.cc, h.ac.rowFar (by omega) _, h.bc.row l, (setRow_other w _ _ _ (by omega)).trans h.kc, h.cip.rowFar (by omega) (by omega) _, h.lt, h.bg⟩
theorem Strm.kSet (h : Strm w B b g key at_ blk k) (m : Nat) : Strm (w.setCell ⟨B + 1 + 1 + 1, 0, none⟩ (.int .i64 (m : Int))) B b g key at_ blk m :=
  have h1 := h.lt
  have h2 := h.bg
  ⟨(Below.heap_setCell w _ _ _ (by show B ≠ B + 1 + 1 + 1; omega)).trans h.cc, h.ac.far (by omega) _, h.bc.far (by omega) _, heap_setCell_same w _ 0 _ _ (.int .i64 (m : Int)) h.kc, h.cip.cellFar (by omega) (by omega) _, h.lt, h.bg⟩
theorem Strm.kCell (h : Strm w B b g key at_ blk k) : w.cell? ⟨B + 1 + 1 + 1, 0, none⟩ = some (.int .i64 (k : Int)) := by rw [cell_of_row w _ 0 _ _ (0, 0) h.kc]; rfl
theorem Strm.kFree (h : Strm w B b g key at_ blk k) (j : Nat) : w.frozen? ⟨B + 1 + 1 + 1, j, none⟩ = false := frozen_of_row w _ j _ _ h.kc
theorem Strm.cCell (h : Strm w B b g key at_ blk k) : w.cell? ⟨B, 0, none⟩ = some (.pointer (some ⟨g, 0, none⟩)) := by rw [cell_of_row w _ 0 _ _ (0, 0) h.cc]; rfl
end

set_option maxRecDepth 100000 in
set_option maxHeartbeats 1000000 in
theorem strm_more (B b g k : Nat) (key at_ blk : List Nat) (w : World) (h : Strm w B b g key at_ blk k) (hk : k < 16) (lb : blk.length = 16) :
    Calls Try.prog 89 #[.pointer (some ⟨B + 1 + 1 + 1, 0, none⟩), .pointer (some ⟨B + 1, 0, none⟩), .pointer (some ⟨B, 0, none⟩), .pointer (some ⟨B + 1 + 1, 0, none⟩)] w fun e w' =>
      e = .returned (.int .u8 (at' blk k : Nat)) ∧ Strm w' B b g key at_ blk (k + 1) ∧ Outside (B + 1) (B + 1 + 1 + 1) w w' := by
  have h1 := h.kCell
  have h2 := h.kFree 0
  have h3 : w.cell? ⟨B + 1 + 1, k, none⟩ = some (.int .u8 (at' blk k : Nat)) := h.bc.cell (by omega)
  have h4 : ((k : Int) == 16) = false := by rw [beq_eq_false_iff_ne]; omega
  have hki : (k : Int) < 16 := by omega
  have K := Lib.hid (h.kSet (k + 1))
  have O := Lib.hid ((Outside.refl (B + 1) (B + 1 + 1 + 1) w).setCell (c := B + 1 + 1 + 1) (j := 0) (by omega) (by omega) (.int .i64 ((k + 1 : Nat) : Int)))
  clear h
  generalize at' blk k = x at *
  go_enter Try.func89, Try.ntmps89
  go_wp2
  go_ret
  exact ⟨rfl, K.out, O.out⟩

set_option maxRecDepth 100000 in
set_option maxHeartbeats 1000000 in
theorem strm_new (B b g : Nat) (key at_ blk : List Nat) (w : World) (h : Strm w B b g key at_ blk 16) (hk : KeyOk key) (hb : Byt key) (ha : Byt at_) (la : at_.length = 16) (lb : blk.length = 16) :
    Calls Try.prog 89 #[.pointer (some ⟨B + 1 + 1 + 1, 0, none⟩), .pointer (some ⟨B + 1, 0, none⟩), .pointer (some ⟨B, 0, none⟩), .pointer (some ⟨B + 1 + 1, 0, none⟩)] w fun e w' =>
      e = .returned (.int .u8 (at' (encA key (nextC at_)) 0 : Nat)) ∧ Strm w' B b g key (nextC at_) (encA key (nextC at_)) 1 ∧ Outside (B + 1) (B + 1 + 1 + 1) w w' := by
  have h1 := h.kCell
  have hnx := next_any at_ ha la
  have hen := fun W hC => encC_any b g (key.length / 4) key (nextC at_) W hk.four hk.len hb (nextC_byt ha) (nextC_len la) hC
  have ln := nextC_len la
  have le := encA_len key (nextC at_)
  rw [show encK (wordsAll (key.length / 4) key) (key.length / 4 + 6) (nextC at_) = encA key (nextC at_) from rfl] at hen
  have HNX := Lib.hid hnx
  have HEN := Lib.hid hen
  have H := Lib.hid h
  have LA := Lib.hid la
  have LN := Lib.hid ln
  have LE := Lib.hid le
  have LB := Lib.hid lb
  clear hnx hen h la ln le lb
  generalize nextC at_ = nx at *
  generalize encA key nx = en at *
  go_enter Try.func89, Try.ntmps89
  go_wp2_with (refine wpList_loadB (l := at_) (o := ⟨some 7, _, _, _, _, _⟩) rfl 23 (.tmp 1) rfl (B + 1) rfl (t := 23) ?_ Try.underlying23 (by rw [LA.out]; exact sz16) ?_; exact H.out.ac)
  refine (HNX.out _).mono ?_
  rintro e w1 ⟨rfl, hb1⟩
  have R1 : Hid (Strm w1 B b g key at_ blk 16) := Lib.hid (H.out.call hb1)
  have R2 : Hid (Outside (B + 1) (B + 1 + 1 + 1) w w1) := Lib.hid ((Outside.refl _ _ w).call hb1)
  clear hb1 h1 HNX H
  go_wp2_with (first
    | (refine wpList_storeN (l := at_) (o := ⟨none, .store _ (.tmp 1) (.tmp 8), _, _, _, _⟩) rfl 23 (.tmp 1) (.tmp 8) rfl (B + 1) rfl nx rfl (t := 23) ?_ (by rw [LN.out]; exact sz16) (by rw [LA.out, LN.out]) ?_
       · exact R1.out.ac
       intro w2 hw2
       have S1 : Hid (Strm w2 B b g key nx blk 16) := Lib.hid (by rw [hw2]; exact R1.out.atRow nx)
       have S2 : Hid (Outside (B + 1) (B + 1 + 1 + 1) w w2) := Lib.hid (by rw [hw2]; exact R2.out.row (by omega) (by omega) _)
       have hcc := S1.out.cCell
       clear hw2)
    | (refine wpList_loadB (l := nx) (o := ⟨some 11, _, _, _, _, _⟩) rfl 23 (.tmp 1) rfl (B + 1) rfl (t := 23) ?_ Try.underlying23 (by rw [LN.out]; exact sz16) ?_
       · exact S1.out.ac))
  refine (HEN.out _ S1.out.cip).mono ?_
  rintro e w3 ⟨rfl, hb3⟩
  have T1 : Hid (Strm w3 B b g key nx blk 16) := Lib.hid (S1.out.call hb3)
  have T2 : Hid (Outside (B + 1) (B + 1 + 1 + 1) w w3) := Lib.hid (S2.out.call hb3)
  clear hb3 hcc S1 S2 R1 R2 HEN
  go_wp2_with (refine wpList_storeN (l := blk) (o := ⟨none, .store _ (.tmp 3) (.tmp 13), _, _, _, _⟩) rfl 23 (.tmp 3) (.tmp 13) rfl (B + 1 + 1) rfl en rfl (t := 23) ?_ (by rw [LE.out]; exact sz16) (by rw [LB.out, LE.out]) ?_
               · exact T1.out.bc
               intro w4 hw4
               have U1 : Hid (Strm w4 B b g key nx en 16) := Lib.hid (by rw [hw4]; exact T1.out.blkRow en)
               have U2 : Hid (Outside (B + 1) (B + 1 + 1 + 1) w w4) := Lib.hid (by rw [hw4]; exact T2.out.row (by omega) (by omega) _)
               have hk1 := U1.out.kCell
               have hk2 := U1.out.kFree 0
               have hb4 : w4.cell? ⟨B + 1 + 1, 0, none⟩ = some (.int .u8 (at' en 0 : Nat)) := U1.out.bc.cell (by rw [LE.out]; decide)
               clear hw4)
  go_ret
  exact ⟨rfl, (U1.out.kSet 0).kSet 1, (U2.out.setCell (c := B + 1 + 1 + 1) (j := 0) (by omega) (by omega) _).setCell (c := B + 1 + 1 + 1) (j := 0) (by omega) (by omega) _⟩

set_option maxRecDepth 100000 in
set_option maxHeartbeats 1000000 in
theorem stream_any (b g : Nat) (key at_ : List Nat) (w : World) (hC : CipK w b g (key.length / 4) key) (hbg : b < g) (la : at_.length = 16) :
    Calls Try.prog 70 #[.pointer (some ⟨g, 0, none⟩), .agg (bts at_)] w fun e w' =>
      e = .returned (.func (.func 89) #[] #[.pointer (some ⟨w.heap.size + 1 + 1 + 1, 0, none⟩), .pointer (some ⟨w.heap.size + 1, 0, none⟩), .pointer (some ⟨w.heap.size, 0, none⟩), .pointer (some ⟨w.heap.size + 1 + 1, 0, none⟩)]) ∧
      Strm w' w.heap.size b g key at_ z16 16 ∧ Below w.heap.size w w' := by
  have hmf : ∀ (fn : Fn) (first cap : Array Value) (w : World), (Instr.makeFunc fn first cap).run Try.prog w = .ok (.func fn first cap) w := fun _ _ _ _ => rfl
  have hg : g < w.heap.size := hC.cip.lt
  have hb1 : Below w.heap.size w ((((w.alloc (.cells #[.pointer (some ⟨g, 0, none⟩)] 88)).alloc (.cells (bts at_) 23)).alloc (.cells (bts z16) 23)).alloc (.cells #[.int .i64 16] 3)) :=
    ((((Below.refl _ _).alloc (Nat.le_refl _) _).alloc (Nat.le_of_lt (by simp)) _).alloc (by simp; omega) _).alloc (by simp; omega) _
  have hst : Strm ((((w.alloc (.cells #[.pointer (some ⟨g, 0, none⟩)] 88)).alloc (.cells (bts at_) 23)).alloc (.cells (bts z16) 23)).alloc (.cells #[.int .i64 16] 3)) w.heap.size b g key at_ z16 16 := by
    refine ⟨?_, ((Bk.newAt _ at_ (by simp)).alloc _).alloc _, (Bk.newAt _ z16 (by simp)).alloc _, ?_, hC.ab hb1, hg, hbg⟩
    · rw [Below.heap_alloc _ _ _ (by simp; omega), Below.heap_alloc _ _ _ (by simp; omega), Below.heap_alloc _ _ _ (by simp)]
      exact heap_alloc_new w _
    · have e : w.heap.size + 1 + 1 + 1 = (((w.alloc (.cells #[.pointer (some ⟨g, 0, none⟩)] 88)).alloc (.cells (bts at_) 23)).alloc (.cells (bts z16) 23)).heap.size := by simp
      rw [e]
      exact heap_alloc_new _ _
  have H1 := Lib.hid hb1
  have H2 := Lib.hid hst
  clear hb1 hst hC la hg
  go_enter Try.func70, Try.ntmps70
  go_wp2
  go_ret
  exact ⟨rfl, H2.out, H1.out⟩

/-! the stream behind i bytes -/
def atS (first : List Nat) (i : Nat) : List Nat := nextN first ((i + 15) / 16)
def blkS (key first : List Nat) (i : Nat) : List Nat := if i = 0 then z16 else encA key (atS first i)
def kS (i : Nat) : Nat := if i = 0 then 16 else (i - 1) % 16 + 1
theorem kS_new {i : Nat} (h : i % 16 = 0) : kS i = 16 := by unfold kS; split <;> omega
theorem kS_more {i : Nat} (h : i % 16 ≠ 0) : kS i = i % 16 := by unfold kS; split <;> omega
theorem kS_next (i : Nat) : kS (i + 1) = i % 16 + 1 := by unfold kS; rw [if_neg (by omega)]; rfl
theorem atS_new {first : List Nat} {i : Nat} (h : i % 16 = 0) : atS first (i + 1) = nextC (atS first i) := by
  unfold atS
  rw [show (i + 1 + 15) / 16 = (i + 15) / 16 + 1 by omega]
  rfl
theorem atS_more {first : List Nat} {i : Nat} (h : i % 16 ≠ 0) : atS first (i + 1) = atS first i := by
  unfold atS
  rw [show (i + 1 + 15) / 16 = (i + 15) / 16 by omega]
theorem atS_next (first : List Nat) (i : Nat) : atS first (i + 1) = nextN first (i / 16 + 1) := by
  unfold atS
  rw [show (i + 1 + 15) / 16 = i / 16 + 1 by omega]
theorem blkS_next (key first : List Nat) (i : Nat) : blkS key first (i + 1) = encA key (atS first (i + 1)) := if_neg (by omega)
theorem blkS_len (key first : List Nat) (i : Nat) : (blkS key first i).length = 16 := by unfold blkS; split; rfl; exact encA_len _ _
theorem ksB_eq (key first : List Nat) (i : Nat) : ksB key first i = at' (blkS key first (i + 1)) (i % 16) := by rw [blkS_next, atS_next]; rfl
theorem strm_at (B b g i : Nat) (key first : List Nat) (w : World) (h : Strm w B b g key (atS first i) (blkS key first i) (kS i)) (hk : KeyOk key) (hb : Byt key) (hf : Byt first) (lf : first.length = 16) :
    Calls Try.prog 89 #[.pointer (some ⟨B + 1 + 1 + 1, 0, none⟩), .pointer (some ⟨B + 1, 0, none⟩), .pointer (some ⟨B, 0, none⟩), .pointer (some ⟨B + 1 + 1, 0, none⟩)] w fun e w' =>
      e = .returned (.int .u8 (ksB key first i : Nat)) ∧ Strm w' B b g key (atS first (i + 1)) (blkS key first (i + 1)) (kS (i + 1)) ∧ Outside (B + 1) (B + 1 + 1 + 1) w w' := by
  by_cases hi : i % 16 = 0
  · rw [kS_new hi] at h
    have := strm_new B b g key (atS first i) (blkS key first i) w h hk hb (nextN_byt hf _) (nextN_len lf _) (blkS_len _ _ _)
    rw [ksB_eq, blkS_next, atS_new hi, kS_next, hi]
    exact this
  · rw [kS_more hi] at h
    have := strm_more B b g (i % 16) key (atS first i) (blkS key first i) w h (by omega) (blkS_len _ _ _)
    have e : blkS key first (i + 1) = blkS key first i := by
      rw [blkS_next, atS_more hi]
      exact (if_neg (by intro h0; rw [h0] at hi; exact hi rfl)).symm
    rw [ksB_eq, e, atS_more hi, kS_next]
    exact this
end Go.Proofs.Ytpofndciepoooaa
