/-
  DEVICES AND REGISTERS AHEAD OF AN OPENING: what they are in memory, in the program and in the document; a device as an argument.
  DEVICES AND REGISTERS AHEAD OF AN OPENING: steps, registers, losses of power: the walks.
-/
import Derived.Test.YtakgebbeknfplaaGreatRnE
import Derived.Test.YtakgebbeknfplaaGreatKyB
namespace Go.Proofs.YtakgebbeknfplaaGreat
open Go.RowKit Go.ChangeShapes Go.WideShapes
set_option linter.unusedVariables false

/-- a block of a device -/
def blkL (L : List Nat) (i : Nat) : List Nat := (L.drop (i * 256)).take 256
/-- bytes laid at the beginning of a block -/
def putD (L b : List Nat) (i : Nat) : List Nat := L.take (i * 256) ++ (b ++ L.drop (i * 256 + b.length))
theorem putD_len {L b : List Nat} {i : Nat} (hL : L.length = 2048) (hi : i < 8) (hb : b.length ≤ 256) : (putD L b i).length = 2048 := by
  simp only [putD, List.length_append, List.length_take, List.length_drop]
  omega
theorem putD_byt {L b : List Nat} {i : Nat} (hL : Byt L) (hb : Byt b) : Byt (putD L b i) := by
  intro x hx
  simp only [putD, List.mem_append] at hx
  rcases hx with hx | hx | hx
  · exact hL x (List.mem_of_mem_take hx)
  · exact hb x hx
  · exact hL x (List.mem_of_mem_drop hx)
theorem blkL_len {L : List Nat} {i : Nat} (hL : L.length = 2048) (hi : i < 8) : (blkL L i).length = 256 := by
  simp only [blkL, List.length_take, List.length_drop]
  omega
theorem blkL_byt {L : List Nat} {i : Nat} (hL : Byt L) : Byt (blkL L i) := fun x hx => hL x (List.mem_of_mem_drop (List.mem_of_mem_take hx))
theorem blkL_put {L b : List Nat} {i : Nat} (hL : L.length = 2048) (hi : i < 8) (hb : b.length ≤ 256) : blkL (putD L b i) i = b ++ (blkL L i).drop b.length := by
  apply List.ext_getElem?
  intro j
  have h1 : (L.take (i * 256)).length = i * 256 := by rw [List.length_take]; omega
  simp only [blkL, putD, List.getElem?_take, List.getElem?_drop, List.getElem?_append, h1]
  by_cases hj : j < 256
  · rw [if_pos hj, if_neg (by omega)]
    have e : i * 256 + j - i * 256 = j := by omega
    rw [e]
    by_cases hjb : j < b.length
    · rw [if_pos hjb, if_pos hjb]
    · rw [if_neg hjb, if_neg hjb, if_pos (by omega)]
      exact congrArg (fun t => L[t]?) (by omega)
  · rw [if_neg hj, if_neg (by omega), if_neg (by omega)]
theorem blkL_ne {L b : List Nat} {i j : Nat} (hL : L.length = 2048) (hi : i < 8) (hb : b.length ≤ 256) (hij : i ≠ j) : blkL (putD L b i) j = blkL L j := by
  apply List.ext_getElem?
  intro k
  have h1 : (L.take (i * 256)).length = i * 256 := by rw [List.length_take]; omega
  simp only [blkL, putD, List.getElem?_take, List.getElem?_drop, List.getElem?_append, h1]
  by_cases hk : k < 256
  · rw [if_pos hk, if_pos hk]
    by_cases hji : j * 256 + k < i * 256
    · rw [if_pos hji, if_pos hji]
    · rw [if_neg hji, if_neg (by omega)]
      exact congrArg (fun t => L[t]?) (by omega)
  · rw [if_neg hk, if_neg hk]
section
variable {P : Program}
/-- an array within a row of arrays is loaded -/
theorem run_loadSub (w : World) (x : Addr) (ty : TypeId) (cs : Array Value) (d : TypeDesc) (hc : ∀ j v, cs[j]? = some v → w.cell? (x.add j) = some v)
    (hu : P.underlying ty = some d) (hd : (match d with | .struct _ | .array _ _ => true | _ => false) = true) (hi : (P.info? ty).map (·.size) = some cs.size) :
    (loadVar ty x).run P w = .ok (.agg cs) w := by
  have hl : (loadCells x cs.toList.length).run P w = .ok cs.toList.toArray w :=
    run_loadCells_list (P := P) w x cs.toList (fun j v hv => hc j v (by simpa using hv))
  cases hq : P.info? ty with
  | none => simp [hq] at hi
  | some i =>
    have hs : i.size = cs.size := by simpa [hq] using hi
    have hagg : (isAgg ty).run P w = .ok true w := by
      unfold isAgg
      rw [Sem.run_bind, run_underlying hu w]
      cases d <;> simp_all
    simp only [Array.length_toList, Array.toArray_toList] at hl
    simp [loadVar, Sem.run_bind, hagg, sizeOf, typeInfo, hq, hs, hl]
theorem wpList_loadSub {ops : Array Oper} {rest : List Oper} {o : Oper} {a : Act} {w : World} {Q : Exit → Act → World → Prop} (hgd : o.guard = none) (ty : TypeId) (x : Operand) (ho : o.op = .load ty x)
    (y : Addr) (hx : a.eval x = .pointer (some y)) (cs : Array Value) (d : TypeDesc) (hc : ∀ j v, cs[j]? = some v → w.cell? (y.add j) = some v)
    (hu : P.underlying ty = some d) (hd : (match d with | .struct _ | .array _ _ => true | _ => false) = true) (hi : (P.info? ty).map (·.size) = some cs.size)
    (h : wpList P ops Q rest (a.put o.dst (.agg cs)) w) : wpList P ops Q (o :: rest) a w := by
  refine wpList_plain hgd fun _ hK => ?_
  unfold Oper.wp execOp
  simp only [ho, hx, Instr.loadAt, Instr.sureAddr, Sem.run_bind, Sem.run_pure, Result.andThen_ok, run_loadSub w y ty cs d hc hu hd hi]
  exact hK _ _ h
end
theorem Bk.sub {w : World} {g : Nat} {T : TypeId} {L : List Nat} (h : Bk w g T L) (i : Nat) : ∀ (j : Nat) (v : Value), (bts (blkL L i))[j]? = some v → w.cell? ((⟨g, i * 256, none⟩ : Addr).add j) = some v := fun j v hv => by
  have hj : j < (blkL L i).length := by rw [← bts_size]; exact (Array.getElem?_eq_some_iff.1 hv).1
  rw [bts_get _ _ hj] at hv
  have h1 : i * 256 + j < L.length := by
    simp only [blkL, List.length_take, List.length_drop] at hj
    omega
  have h2 : (blkL L i)[j]? = L[i * 256 + j]? := by
    have h3 : j < 256 := by simp only [blkL, List.length_take] at hj; omega
    simp only [blkL, List.getElem?_take, List.getElem?_drop, if_pos h3]
  rw [Addr.add_mid, h.cell h1, ← h2]
  exact hv
/-- the program's device -/
structure DkB (w : World) (B d g1 g2 : Nat) (st cut : Int) (down : Bool) (L : List Nat) : Prop where
  box : CbB w d 164 #[.slice (some ⟨g1, 0, none⟩) 8 8, .slice (some ⟨g2, 0, none⟩) 8 8, .slice none 0 0, .int .u64 st, .int .i64 0, .int .i64 cut, .bool down]
  now : Bk w g1 179 L
  firm : ∃ L2, Bk w g2 179 L2 ∧ L2.length = 2048
  len : L.length = 2048
  byt : Byt L
  ne : g1 ≠ g2
  low : B ≤ d ∧ B ≤ g1 ∧ B ≤ g2
theorem Bk.fr {w w' : World} {g : Nat} {T : TypeId} {l : List Nat} {F : Nat → Prop} (h : Bk w g T l) (hf : Fr w w' F) (hn : ¬ F g) : Bk w' g T l := (hf.block g h.lt hn).trans h
theorem DkB.fr {w w' : World} {B d g1 g2 : Nat} {st cut : Int} {down : Bool} {L : List Nat} {F : Nat → Prop} (h : DkB w B d g1 g2 st cut down L) (hf : Fr w w' F) (hn : ∀ k, F k → k ≠ d ∧ k ≠ g1 ∧ k ≠ g2) : DkB w' B d g1 g2 st cut down L := by
  obtain ⟨L2, h2, h3⟩ := h.firm
  exact ⟨h.box.fr hf (fun e => (hn _ e).1 rfl), h.now.fr hf (fun e => (hn _ e).2.1 rfl), ⟨L2, h2.fr hf (fun e => (hn _ e).2.2 rfl), h3⟩, h.len, h.byt, h.ne, h.low⟩
theorem DkB.lt {w : World} {B d g1 g2 : Nat} {st cut : Int} {down : Bool} {L : List Nat} (h : DkB w B d g1 g2 st cut down L) : d < w.heap.size ∧ g1 < w.heap.size ∧ g2 < w.heap.size := by
  obtain ⟨L2, h2, h3⟩ := h.firm
  exact ⟨h.box.lt, h.now.lt, h2.lt⟩
theorem DkB.dne {w : World} {B d g1 g2 : Nat} {st cut : Int} {down : Bool} {L : List Nat} (h : DkB w B d g1 g2 st cut down L) : d ≠ g1 ∧ d ≠ g2 := by
  obtain ⟨L2, h2, h3⟩ := h.firm
  have hb := h.box
  unfold CbB at hb
  refine ⟨fun e => ?_, fun e => ?_⟩
  · have := h.now
    unfold Bk at this
    rw [← e, hb] at this
    injection this with this
    injection this with _ this
    exact absurd this (by decide)
  · unfold Bk at h2
    rw [← e, hb] at h2
    injection h2 with h2
    injection h2 with _ h2
    exact absurd h2 (by decide)
theorem DkB.ab {w w' : World} {B d g1 g2 : Nat} {st cut : Int} {down : Bool} {L : List Nat} (h : DkB w B d g1 g2 st cut down L) (hb : Below w.heap.size w w') : DkB w' B d g1 g2 st cut down L :=
  h.fr (Fr.of hb (fun _ => False)) (fun k hk => hk.elim)
theorem DkN.dev {w : World} {B d g1 g2 : Nat} (h : DkN w B d 8 g1 g2) : DkB w B d g1 g2 0 (-1) false (zeros 2048) :=
  ⟨h.box, h.now, ⟨_, h.firm, by rw [zeros_len]⟩, by rw [zeros_len], byt_zeros _, h.ne, h.low⟩
/-- the document's device: the numbers of its blocks' rows -/
structure RdB (w : World) (B g : Nat) (v1 v2 : Value) (b1 b2 : List Nat) (st cut : Int) (down : Bool) (L : List Nat) : Prop where
  box : CbB w g 56 #[v1, v2, .slice none 0 0, .int .u64 st, .int .i64 0, .int .i64 cut, .bool down]
  own1 : w.ownsRow B 22 1 v1 b1.length (b1.map fun b => .slice (some ⟨b, 0, none⟩) 256 256)
  own2 : w.ownsRow B 22 1 v2 b2.length (b2.map fun b => .slice (some ⟨b, 0, none⟩) 256 256)
  ne12 : ∀ k, v1.ownBlock = some k → v2.ownBlock ≠ some k
  at1 : ∀ (i b : Nat), b1[i]? = some b → B ≤ b ∧ Bk w b 5 (blkL L i)
  at2 : ∀ (i b : Nat), b2[i]? = some b → B ≤ b ∧ ∃ l, Bk w b 5 l ∧ l.length = 256
  nd : (b1 ++ b2).Nodup
  low : B ≤ g
theorem RdB.fr {w w' : World} {B g : Nat} {v1 v2 : Value} {b1 b2 : List Nat} {st cut : Int} {down : Bool} {L : List Nat} {F : Nat → Prop} (h : RdB w B g v1 v2 b1 b2 st cut down L) (hf : Fr w w' F) (hn : ∀ k, F k → k < B) : RdB w' B g v1 v2 b1 b2 st cut down L := by
  have hF : ∀ k, B ≤ k → ¬ F k := fun k hk e => by have := hn k e; omega
  refine ⟨h.box.fr hf (hF _ h.low), row_fr h.own1 hf (fun k hk => hF k (own_ge9 h.own1 k hk)), row_fr h.own2 hf (fun k hk => hF k (own_ge9 h.own2 k hk)), h.ne12, fun i b hi => ?_, fun i b hi => ?_, h.nd, h.low⟩
  · obtain ⟨k1, k2⟩ := h.at1 i b hi
    exact ⟨k1, k2.fr hf (hF b k1)⟩
  · obtain ⟨k1, l, k2, k3⟩ := h.at2 i b hi
    exact ⟨k1, l, k2.fr hf (hF b k1), k3⟩
theorem RdB.ab {w w' : World} {B g : Nat} {v1 v2 : Value} {b1 b2 : List Nat} {st cut : Int} {down : Bool} {L : List Nat} (h : RdB w B g v1 v2 b1 b2 st cut down L) (hb : Below w.heap.size w w') : RdB w' B g v1 v2 b1 b2 st cut down L :=
  h.fr (Fr.of hb (fun _ => False)) (fun k hk => hk.elim)
/-- rings where nothing that they have is written -/
theorem RgB.fr {w w' : World} {B g m : Nat} {l : RgL} {F : Nat → Prop} (h : RgB w B g m l) (hg : B ≤ g) (hf : Fr w w' F) (hn : ∀ k, F k → k < w.heap.size → k < B) : RgB w' B g m l := by
  obtain ⟨us, hmp, hv⟩ := h.map
  have hcb : CbB w g 169 #[.map (some m)] := h.box
  have no : ∀ k, B ≤ k → k < w.heap.size → ¬ F k := fun k hk hl e => by have := hn k e hl; omega
  exact ⟨(hcb.fr hf (no g hg hcb.lt) : CbB w' g _ _), h.low, ⟨us, hmp.same (hf.block m h.mlt (no m h.low h.mlt)), hv.imp fun z k hz => hz.fr hf (fun q hq => no q (hz.lt q hq).1 (hz.lt q hq).2)⟩, h.ne⟩
theorem RkB.fr {w w' : World} {B g : Nat} {v : Value} {vs : List ((Nat × Nat) × Value)} {l : RgL} {F : Nat → Prop} (h : RkB w B g v vs l) (hf : Fr w w' F) (hg : B ≤ g) (hn : ∀ k, F k → k < w.heap.size → k < B) : RkB w' B g v vs l := by
  have no : ∀ k, B ≤ k → k < w.heap.size → ¬ F k := fun k hk hl e => by have := hn k e hl; omega
  refine ⟨h.box.fr hf (no g hg h.box.lt), row_fr h.own hf (fun k hk => no k (own_ge9 h.own k hk) ?_), h.vals.imp fun z k hz => hz.fr hf (fun q hq => no q (hz.lt q hq).1 (hz.lt q hq).2), Nat.le_trans h.low hf.size, h.ne⟩
  rcases h.own.2 with ⟨rfl, _⟩ | ⟨g', cap, cur, rfl, _, hh, _⟩
  · cases hk
  · have : g' = k := by injection hk
    subst this
    exact (Array.getElem?_eq_some_iff.1 hh).1
/-- the registers -/
def RsB (w : World) (r d lim : Nat) (res : Int) (com : Nat) : Prop := CbB w r 166 #[.pointer (some ⟨d, 0, none⟩), .int .u64 (lim : Int), .int .u64 res, .int .u64 (com : Int), .slice none 0 0]
section
variable {H : Type} {enc : TypeId × Value → H} {W : World}
theorem array5X {α : Type} {cs : Array α} (h : cs.size = 5) : ∃ c0 c1 c2 c3 c4, cs = #[c0, c1, c2, c3, c4] := by
  obtain ⟨l⟩ := cs
  match l, h with
  | [c0, c1, c2, c3, c4], _ => exact ⟨c0, c1, c2, c3, c4, rfl⟩
/-- a device as it came in -/
structure DArg where
  a0 : Option Addr
  n0 : Nat
  c0 : Nat
  s0 : List Nat
  a1 : Option Addr
  n1 : Nat
  c1 : Nat
  s1 : List Nat
  r : Int
  c : Nat
  off : Bool
def DArg.val (x : DArg) : Array Value := #[.slice x.a0 x.n0 x.c0, .slice x.a1 x.n1 x.c1, .int .i64 x.r, .int .u64 (x.c : Int), .bool x.off]
set_option maxRecDepth 100000 in
theorem open_dev {base : Nat} {v : Value} {d : DataW H} {p : List MemPlace} (hk : Value.okWide Tryz.prog W .any base 26 v)
    (h : DataW.Trod enc Tryz.prog W 0 (fun _ => true) true 26 v d p) (hlt : ∀ x ∈ p, x.block < W.heap.size) :
    ∃ x : DArg, v = .agg x.val ∧ IsB W x.a0 x.n0 x.c0 x.s0 ∧ IsB W x.a1 x.n1 x.c1 x.s1 ∧ (Lit.int .i64 x.r).wf = true ∧ x.c < 18446744073709551616 := by
  obtain ⟨cs, rfl, hs⟩ := okWide_struct Tryz.underlying26 hk
  have hc5 : Tryz.prog.cellsOf 26 = 5 := by kernel_rfl
  rw [hc5] at hs
  obtain ⟨c0, c1, c2, c3, c4, rfl⟩ := array5X hs
  obtain ⟨fuel, hf⟩ := h
  obtain ⟨y0, y1, y2, y3, n, hx, -, h0, h1, h2, h3⟩ := trod_struct4X Tryz.underlying26 hf
  have cb : Tryz.prog.cellsOf 22 = 1 := by kernel_rfl
  have ca : Tryz.prog.cellsOf 23 = 2 := by kernel_rfl
  have ci : Tryz.prog.cellsOf 3 = 1 := by kernel_rfl
  have cl : Tryz.prog.cellsOf 24 = 1 := by kernel_rfl
  have co : Tryz.prog.cellsOf 4 = 1 := by kernel_rfl
  have c8 : Tryz.prog.cellsOf 5 = 1 := by kernel_rfl
  have hp : p = y0.2 ++ (y1.2 ++ (y2.2 ++ y3.2)) := by simpa using congrArg (·.2) hx
  simp only [Value.cells, ca, ci, cl, co] at h0 h1 h2 h3
  obtain ⟨z0, z1, m, hy, g0, g1⟩ := trod_arr2X (c0 := c0) (c1 := c1) Tryz.underlying23 cb h0
  have hp0 : y0.2 = z0.2 ++ z1.2 := by simpa using congrArg (·.2) hy
  obtain ⟨A0, n0, k0, s0, e0, i0⟩ := isB_trod Tryz.underlying22 Tryz.underlying5 c8 g0 (fun q hq => hlt q (by rw [hp, hp0]; simp [hq]))
  obtain ⟨A1, n1, k1, s1, e1, i1⟩ := isB_trod Tryz.underlying22 Tryz.underlying5 c8 g1 (fun q hq => hlt q (by rw [hp, hp0]; simp [hq]))
  obtain ⟨r, e2, w2⟩ := int_trod Tryz.underlying3 h1
  obtain ⟨c, e3, w3⟩ := int_trod Tryz.underlying24 h2
  obtain ⟨o, e4⟩ := bool_trodX Tryz.underlying4 h3
  simp at e0 e1 e2 e3 e4
  subst e0 e1 e2 e3 e4
  obtain ⟨c', rfl, hc'⟩ := nat_intX (m := 18446744073709551616) w3 rfl (by decide)
  exact ⟨⟨A0, n0, k0, s0, A1, n1, k1, s1, r, c', o⟩, rfl, i0, i1, w2, hc'⟩
end
end Go.Proofs.YtakgebbeknfplaaGreat

namespace Go.Proofs.YtakgebbeknfplaaGreat
open Go.RowKit Go.ChangeShapes Go.WideShapes
set_option linter.unusedVariables false
set_option linter.unusedSimpArgs false

section
variable {w : World} {B d g1 g2 : Nat} {st cut : Int} {down : Bool} {L : List Nat}
theorem DkB.steps (h : DkB w B d g1 g2 st cut down L) (s : Int) : DkB (w.setCell ⟨d, 3, none⟩ (.int .u64 s)) B d g1 g2 s cut down L := by
  obtain ⟨L2, h2, h3⟩ := h.firm
  have hn := h.dne
  exact ⟨h.box.set 3 _, h.now.far (Ne.symm hn.1) _, ⟨L2, h2.far (Ne.symm hn.2) _, h3⟩, h.len, h.byt, h.ne, h.low⟩
theorem DkB.cuts (h : DkB w B d g1 g2 st cut down L) (c : Int) : DkB (w.setCell ⟨d, 5, none⟩ (.int .i64 c)) B d g1 g2 st c down L := by
  obtain ⟨L2, h2, h3⟩ := h.firm
  have hn := h.dne
  exact ⟨h.box.set 5 _, h.now.far (Ne.symm hn.1) _, ⟨L2, h2.far (Ne.symm hn.2) _, h3⟩, h.len, h.byt, h.ne, h.low⟩
theorem DkB.downs (h : DkB w B d g1 g2 st cut down L) (c : Bool) : DkB (w.setCell ⟨d, 6, none⟩ (.bool c)) B d g1 g2 st cut c L := by
  obtain ⟨L2, h2, h3⟩ := h.firm
  have hn := h.dne
  exact ⟨h.box.set 6 _, h.now.far (Ne.symm hn.1) _, ⟨L2, h2.far (Ne.symm hn.2) _, h3⟩, h.len, h.byt, h.ne, h.low⟩
end
theorem RsB.cells {w : World} {r d lim : Nat} {res : Int} {com : Nat} (h : RsB w r d lim res com) : w.cell? ⟨r, 0, none⟩ = some (.pointer (some ⟨d, 0, none⟩)) ∧ w.cell? ⟨r, 1, none⟩ = some (.int .u64 (lim : Int)) ∧ w.cell? ⟨r, 2, none⟩ = some (.int .u64 res) ∧ w.cell? ⟨r, 3, none⟩ = some (.int .u64 (com : Int)) ∧ (∀ k, w.frozen? ⟨r, k, none⟩ = false) := by
  have hb : CbB w r 166 _ := h
  exact ⟨hb.cell (k := 0) rfl, hb.cell (k := 1) rfl, hb.cell (k := 2) rfl, hb.cell (k := 3) rfl, hb.free⟩
theorem RsB.fr {w w' : World} {r d lim : Nat} {res : Int} {com : Nat} {F : Nat → Prop} (h : RsB w r d lim res com) (hf : Fr w w' F) (hn : ¬ F r) : RsB w' r d lim res com := by
  have hb : CbB w r 166 _ := h
  exact hb.fr hf hn
theorem RsB.set2 {w : World} {r d lim : Nat} {res : Int} {com : Nat} (h : RsB w r d lim res com) (z : Int) : RsB (w.setCell ⟨r, 2, none⟩ (.int .u64 z)) r d lim z com := by
  have hb : CbB w r 166 _ := h
  exact hb.set 2 _
theorem RsB.set3 {w : World} {r d lim : Nat} {res : Int} {com : Nat} (h : RsB w r d lim res com) (z : Nat) : RsB (w.setCell ⟨r, 3, none⟩ (.int .u64 (z : Int))) r d lim res z := by
  have hb : CbB w r 166 _ := h
  exact hb.set 3 _
theorem fr_cell (w : World) (g k : Nat) (v : Value) : Fr w (w.setCell ⟨g, k, none⟩ v) (fun q => q = g) := (Fr.grown (grown_cell w g k v)).imp fun q hq => by injection hq with hq; exact hq.symm
section
variable (B d g1 g2 : Nat) (st : Int) (L : List Nat) (w : World)
set_option maxRecDepth 100000 in
theorem dstep_in (h : DkB w B d g1 g2 st (-1) false L) (h0 : 0 ≤ st) (h1 : st ≤ 1000000) :
    Calls Tryz.prog 84 #[.pointer (some ⟨d, 0, none⟩)] w fun e w' => e = .returned (.int .i64 0) ∧ DkB w' B d g1 g2 (st + 1) (-1) false L ∧ Fr w w' (fun k => k = d) := by
  have c3 := h.box.cell (k := 3) rfl
  have c4 := h.box.cell (k := 4) rfl
  have c5 := h.box.cell (k := 5) rfl
  have c6 := h.box.cell (k := 6) rfl
  have f3 := h.box.free 3
  have HH := Lib.hid h
  clear h
  go_enter Tryz.func84, Tryz.ntmps84
  go_wp2_with fail
  go_ret
  exact ⟨rfl, HH.out.steps _, fr_cell _ _ _ _⟩
set_option maxRecDepth 100000 in
theorem dstep_any (h : DkB w B d g1 g2 st (-1) false L) (h0 : 0 ≤ st) (h1 : st ≤ 1000000) :
    Calls Tryz.prog 24 #[.pointer (some ⟨d, 0, none⟩)] w fun e w' => e = .returned (.int .i64 0) ∧ DkB w' B d g1 g2 (st + 1) (-1) false L ∧ Fr w w' (fun k => k = d) := by
  have HS := Lib.hid (dstep_in B d g1 g2 st L w h h0 h1)
  clear h h0 h1
  go_enter Tryz.func24, Tryz.ntmps24
  go_wp2_with fail
  refine HS.out.mono ?_
  rintro e w1 ⟨rfl, h1, h2⟩
  have H1 := Lib.hid h1
  have H2 := Lib.hid h2
  clear h1 h2 HS
  go_wp2_with fail
  go_ret
  exact ⟨rfl, H1.out, H2.out⟩
set_option maxRecDepth 100000 in
theorem dstep_off_in (h : DkB w B d g1 g2 st 0 false L) :
    Calls Tryz.prog 84 #[.pointer (some ⟨d, 0, none⟩)] w fun e w' => e = .returned (.int .i64 81) ∧ DkB w' B d g1 g2 st 0 true L ∧ Fr w w' (fun k => k = d) := by
  have c5 := h.box.cell (k := 5) rfl
  have c6 := h.box.cell (k := 6) rfl
  have f6 := h.box.free 6
  have HH := Lib.hid h
  clear h
  go_enter Tryz.func84, Tryz.ntmps84
  go_wp2_with fail
  go_ret
  exact ⟨rfl, HH.out.downs _, fr_cell _ _ _ _⟩
set_option maxRecDepth 100000 in
theorem dstep_off (h : DkB w B d g1 g2 st 0 false L) :
    Calls Tryz.prog 24 #[.pointer (some ⟨d, 0, none⟩)] w fun e w' => e = .returned (.int .i64 81) ∧ DkB w' B d g1 g2 st 0 true L ∧ Fr w w' (fun k => k = d) := by
  have HS := Lib.hid (dstep_off_in B d g1 g2 st L w h)
  clear h
  go_enter Tryz.func24, Tryz.ntmps24
  go_wp2_with fail
  refine HS.out.mono ?_
  rintro e w1 ⟨rfl, h1, h2⟩
  have H1 := Lib.hid h1
  have H2 := Lib.hid h2
  clear h1 h2 HS
  go_wp2_with fail
  go_ret
  exact ⟨rfl, H1.out, H2.out⟩
set_option maxRecDepth 100000 in
theorem dcut_any (h : DkB w B d g1 g2 st (-1) false L) :
    Calls Tryz.prog 23 #[.pointer (some ⟨d, 0, none⟩), .int .i64 0] w fun e w' => e = .returned (.tuple #[]) ∧ DkB w' B d g1 g2 st 0 false L ∧ Fr w w' (fun k => k = d) := by
  have c5 := h.box.cell (k := 5) rfl
  have f5 := h.box.free 5
  have HH := Lib.hid h
  clear h
  go_enter Tryz.func23, Tryz.ntmps23
  go_wp2_with fail
  first
    | ((try simp only [Exit.inBlock, Exit.then]); refine bodyPost_ret (results_none rfl _ _ _) rfl ?_)
    | (refine bodyPost_end (results_none rfl _ _ _) rfl ?_)
  exact ⟨rfl, HH.out.cuts _, fr_cell _ _ _ _⟩
set_option maxRecDepth 100000 in
theorem reserve_any (r lim : Nat) (res : Int) (com : Nat) (h : DkB w B d g1 g2 st (-1) false L) (h0 : 0 ≤ st) (h1 : st ≤ 1000000) (hr : RsB w r d lim res com) (hrd : r ≠ d ∧ r ≠ g1 ∧ r ≠ g2) (k0 : 0 ≤ res) (k1 : res < (lim : Int)) (k2 : lim ≤ 1000000) :
    Calls Tryz.prog 21 #[.pointer (some ⟨r, 0, none⟩)] w fun e w' => e = .returned (.tuple #[.int .u64 (res + 1), .int .i64 0]) ∧ DkB w' B d g1 g2 (st + 1) (-1) false L ∧ RsB w' r d lim (res + 1) com ∧ Fr w w' (fun k => k = d ∨ k = r) := by
  have HS := Lib.hid (dstep_any B d g1 g2 st L w.drew (h.ab (Below.refl _ _).drew) h0 h1)
  obtain ⟨c0, c1, c2, c3, _⟩ := (show RsB w.drew r d lim res com from hr).cells
  have k3 : res ≤ 1000000 := by omega
  have k4 : ¬ (lim : Int) ≤ res := by omega
  have HR := Lib.hid (show RsB w.drew r d lim res com from hr)
  have HN := Lib.hid hrd
  clear h h0 h1 hr hrd
  go_enter Tryz.func21, Tryz.ntmps21
  go_wp2_with fail
  refine wp_still_tail 8 (by kernel_rfl) (by kernel_rfl) ?_
  simp only [List.take_succ_cons, List.take_zero, List.drop_succ_cons, List.drop_zero]
  repeat still_step
  refine wpStill_nil ?_
  go_wp2_with fail
  refine HS.out.mono ?_
  rintro e w1 ⟨rfl, h1, h2⟩
  have H1 := Lib.hid h1
  have H2 := Lib.hid h2
  have R1 := Lib.hid (HR.out.fr h2 HN.out.1)
  obtain ⟨_, _, c2', _, f2⟩ := R1.out.cells
  have f2 := f2 2
  clear h1 h2 HS c0 c1 c2 c3 HR
  go_wp2_with fail
  go_ret2
  refine ⟨rfl, H1.out.fr (fr_cell w1 r 2 _) (fun k hk => hk ▸ HN.out), R1.out.set2 _, ((Fr.of (Below.refl _ _).drew _).tr (H2.out.imp fun k hk => .inl hk)).tr ((fr_cell _ _ _ _).imp fun k hk => .inr hk)⟩
set_option maxRecDepth 100000 in
theorem advance_no (r lim : Nat) (res : Int) (n : Nat) (hr : RsB w r d lim res 0) (h0 : 0 ≤ res) (hn : (n : Int) > res) :
    Calls Tryz.prog 22 #[.pointer (some ⟨r, 0, none⟩), .int .u64 (n : Int)] w fun e w' => e = .returned (.int .i64 2) ∧ w = w' := by
  obtain ⟨c0, c1, c2, c3, _⟩ := hr.cells
  have c3 : w.cell? ⟨r, 3, none⟩ = some (.int .u64 0) := c3
  have n1 : decide ((n : Int) ≤ 0) = false := by simp; omega
  have n2 : decide (res < (n : Int)) = true := by simp; omega
  clear hr
  go_enter Tryz.func22, Tryz.ntmps22
  go_wp2_with fail
  go_ret
  exact ⟨rfl, rfl⟩
set_option maxRecDepth 100000 in
theorem advance_yes (r lim : Nat) (res : Int) (n : Nat) (h : DkB w B d g1 g2 st (-1) false L) (h0 : 0 ≤ st) (h1 : st ≤ 1000000) (hr : RsB w r d lim res 0) (hrd : r ≠ d ∧ r ≠ g1 ∧ r ≠ g2) (hn : ¬ (n : Int) > res) (hn0 : 0 < n) :
    Calls Tryz.prog 22 #[.pointer (some ⟨r, 0, none⟩), .int .u64 (n : Int)] w fun e w' => e = .returned (.int .i64 0) ∧ DkB w' B d g1 g2 (st + 1) (-1) false L ∧ RsB w' r d lim res n ∧ Fr w w' (fun k => k = d ∨ k = r) := by
  have HS := Lib.hid (dstep_any B d g1 g2 st L w h h0 h1)
  obtain ⟨c0, c1, c2, c3, _⟩ := hr.cells
  have c3 : w.cell? ⟨r, 3, none⟩ = some (.int .u64 0) := c3
  have n1 : decide ((n : Int) ≤ 0) = false := by simp; omega
  have nz : ¬ n = 0 := by omega
  have nz2 : decide (n = 0) = false := by simp; omega
  have n2 : decide (res < (n : Int)) = false := by simp; omega
  have HR := Lib.hid hr
  have HN := Lib.hid hrd
  clear h h0 h1 hr hrd hn hn0
  go_enter Tryz.func22, Tryz.ntmps22
  go_wp2_with fail
  refine HS.out.mono ?_
  rintro e w1 ⟨rfl, h1, h2⟩
  have H1 := Lib.hid h1
  have H2 := Lib.hid h2
  have R1 := Lib.hid (HR.out.fr h2 HN.out.1)
  obtain ⟨_, _, _, _, f3⟩ := R1.out.cells
  have f3 := f3 3
  clear h1 h2 HS c0 c2 c3 HR
  go_wp2_with fail
  go_ret
  refine ⟨rfl, H1.out.fr (fr_cell w1 r 3 _) (fun k hk => hk ▸ HN.out), R1.out.set3 _, (H2.out.imp fun k hk => .inl hk).tr ((fr_cell _ _ _ _).imp fun k hk => .inr hk)⟩
end
end Go.Proofs.YtakgebbeknfplaaGreat
