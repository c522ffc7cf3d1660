/-
  WALKS: hier.drawn, Root, Wrapper (P22.1). WALKS: hier.Root, Wrapper, number, around, Mark, Wrap, Unwrap.
  WALKS: ref22: Number, block, Drawn, Mark, nonce, beside, Wrap, Unwrap. WALKS: ref22: Wrap, Unwrap, Same. WALKS: law22's lent, kept, known; ref22's Same.
-/
import Derived.Test.YtmeakfocppooiaaGcL
import Derived.Test.YtmeakfocppooiaaWid3
import Derived.Test.YtmeakfocppooiaaOpn
import Derived.Lib.SmallJoins
namespace Go.Proofs.Ytmeakfocppooiaa
open Go.RowKit
set_option linter.unusedVariables false

/-- a purpose's block -/
def blkH (p gn i : Nat) : List Nat := [p, gn / 256, gn % 256, 0, 0, 0, 0, 0, 0, 0, 0, 0, 0, 0, 0, i]
theorem blkH_len (p gn i : Nat) : (blkH p gn i).length = 16 := rfl
theorem blkH_byt {p gn i : Nat} (hp : p < 256) (hg : gn < 65536) (hi : i < 256) : Byt (blkH p gn i) := fun x hx => by
  simp only [blkH, List.mem_cons, List.not_mem_nil, or_false] at hx
  omega
def drawnN (key : List Nat) (p gn : Nat) : Nat → List Nat
  | 0 => []
  | i + 1 => drawnN key p gn i ++ encA key (blkH p gn i)
def drawnA (key : List Nat) (p gn : Nat) : List Nat := drawnN key p gn 2
theorem drawnN_len (key : List Nat) (p gn : Nat) : ∀ i, (drawnN key p gn i).length = 16 * i
  | 0 => rfl
  | i + 1 => by rw [drawnN, List.length_append, drawnN_len key p gn i, encA_len]; omega
theorem drawnA_len (key : List Nat) (p gn : Nat) : (drawnA key p gn).length = 32 := drawnN_len key p gn 2
def drawnS (key : List Nat) (p gn : Nat) : List Nat × Nat := if key.length = 32 then (drawnA key p gn, 0) else ([], 2)
/-- the closure's variables: the cipher, the purpose, the generation -/
structure Drw (w : World) (B C b g : Nat) (key : List Nat) (p gn : Nat) : Prop where
  cc : w.heap[C]? = some (.cells #[.pointer (some ⟨g, 0, none⟩)] 229 (0, 0))
  pc : w.heap[B]? = some (.cells #[.int .u8 (p : Int)] 5 (0, 0))
  gc : w.heap[B + 1]? = some (.cells #[.int .u16 (gn : Int)] 31 (0, 0))
  cip : CipK w b g (key.length / 4) key
theorem Drw.ab {w w' : World} {B C b g : Nat} {key : List Nat} {p gn : Nat} (h : Drw w B C b g key p gn) (hb : Below w.heap.size w w') : Drw w' B C b g key p gn :=
  ⟨(hb.block _ (lt_of_block h.cc)).trans h.cc, (hb.block _ (lt_of_block h.pc)).trans h.pc, (hb.block _ (lt_of_block h.gc)).trans h.gc, h.cip.ab hb⟩
theorem drawnS_byt {key : List Nat} (hk : KeyOk key) (hb : Byt key) {p gn : Nat} (hp : p < 256) (hg : gn < 65536) : ∀ i, i ≤ 256 → Byt (drawnN key p gn i)
  | 0, _ => fun x hx => by cases hx
  | i + 1, h => byt_app (drawnS_byt hk hb hp hg i (by omega)) (encA_byt hk hb (blkH_byt hp hg (by omega)))
theorem drawnA_byt {key : List Nat} (hk : KeyOk key) (hb : Byt key) {p gn : Nat} (hp : p < 256) (hg : gn < 65536) : Byt (drawnA key p gn) := drawnS_byt hk hb hp hg 2 (by decide)
end Go.Proofs.Ytmeakfocppooiaa

namespace Go.Proofs.Ytmeakfocppooiaa
open Go.RowKit
set_option linter.unusedVariables false

theorem wide_u64 (n : Nat) (h : n < 18446744073709551616) : IntKind.u64.wrap (n : Int) = (n : Int) := wrap_u64' (n := n) (by omega) _ (by omega) (by omega)
theorem exec_move {P : Program} {r : Operand → Value} {o : Oper} (x : Operand) (h : o.op = .move x) (w : World) : (execOp r o).run P w = .ok (.value (r x)) w := by
  unfold execOp
  simp only [h, Sem.run_pure]
theorem yields_value2 {P : Program} {o : Oper} {a : Act} {W : World} {R : Value → World → Prop} (v : Value) (W' : World) (h : (execOp a.eval o).run P W = .ok (.value v) W') (hR : R v W') (hb : Below W.heap.size W W') : Yields P o a W false R := .inl ⟨v, W', h, hR, hb, fresh_no _ _ _⟩
theorem cell_isB {w : World} {b : Addr} {n c : Nat} {l : List Nat} (h : IsB w (some b) n c l) : ∀ j u, (bvals l)[j]? = some u → w.cell? (b.add j) = some u := fun j u hj => by
  have l1 := h.len
  have hj' : j < n := by
    rcases Nat.lt_or_ge j n with h | h
    · exact h
    · rw [List.getElem?_eq_none (by simp [bvals]; omega)] at hj; cases hj
  obtain ⟨y, e, _, hy⟩ := h.cell (by omega)
  injection e with e
  subst e
  rw [hy j hj', ← hj]
  simp [bvals, at', List.getElem?_eq_getElem (show j < l.length by omega)]
/-- an append without room, as a head -/
theorem yields_appGrow {o : Oper} {a : Act} {W : World} {R : Value → World → Prop} (s x : Operand) (ho : o.op = .call { callee := .builtin .append, args := #[s, x], argTypes := #[28, 28] })
    {b : Addr} {n c : Nat} {la : List Nat} (ha : IsB W (some b) n c la) (hs : a.eval s = .slice (some b) n c) {X : Addr} {m d : Nat} {lx : List Nat} (hx : IsB W (some X) m d lx) (he : a.eval x = .slice (some X) m d)
    (hfull : c < n + m) (hm : n + m ≤ 140737488355328) (hR : ∀ v' W', OwB W' W.heap.size v' (la ++ lx) → Below W.heap.size W W' → R v' W') : Yields Try.prog o a W false R := by
  obtain ⟨i0, hi0, hz0, hz1, hz2⟩ := info_parts infoU8
  have l1 := ha.len
  have l2 := hx.len
  obtain ⟨v', w', hrun, r1, r2⟩ := run_append_arg_grows (P := Try.prog) W 28 o.type 5 i0 _ 1 1 Try.underlying28 hi0 hz0 hz1 hz2 rfl (by decide) b n c (bvals la) (by simp [bvals, l1]) (cell_isB ha) X m d (bvals lx) (by simp [bvals, l2]) (cell_isB hx) hfull (by simp only [maxLen]; omega) (by omega)
  have hb : Below W.heap.size W w' := ⟨r2.os, r2.tape, r2.output, r2.size, fun k hk => r2.block k hk (by simp)⟩
  have hw : OwB w' W.heap.size v' (la ++ lx) := by
    refine ⟨?_, byt_app ha.2 hx.2⟩
    rw [List.length_append, l1, l2]
    have e : bvals la ++ bvals lx = bvals (la ++ lx) := by simp [bvals]
    rw [← e]
    exact r1
  refine yields_value2 v' w' ?_ (hR _ _ hw hb) hb
  simp [execOp, ho, resolve, invoke, builtin, hs, he, hrun, Result.andThen]
theorem bk_own {w : World} {B g m n : Nat} (h : Bk w g 5 (digB m n)) (hB : B ≤ g) (hn : n ≤ 8) : OwB w B (.slice (some ⟨g, 0, none⟩) n n) (digB m n) :=
  OwB.ofBk h hB (digB_len _ _) (Nat.le_refl _) (digB_len _ _) (by omega) (List.take_of_length_le (by rw [digB_len]; omega)) (digB_byt _ _)
theorem OwB.cut {w : World} {B : Nat} {v : Value} {l : List Nat} {n : Nat} (h : OwB w B v l) (hl : l.length = n) (h0 : 0 < n) : ∃ g c, v = .slice (some ⟨g, 0, none⟩) n c ∧ IsB w (some ⟨g, 0, none⟩) n c l := by
  obtain ⟨g, c, rfl, -⟩ := h.form (by omega)
  rw [hl] at h ⊢
  exact ⟨g, c, rfl, h.isB hl⟩
/-- a wrapped key's nonce, and what stands beside it -/
def nonH (ten cm : Nat) : List Nat := digB ten 4 ++ digB cm 8
def besH (ten gn : Nat) : List Nat := digB ten 4 ++ digB gn 2
theorem nonH_len (ten cm : Nat) : (nonH ten cm).length = 12 := by simp [nonH, digB_len]
theorem besH_len (ten gn : Nat) : (besH ten gn).length = 6 := by simp [besH, digB_len]
/-- bytes that came out, in a block of whatever type -/
def OutI (w : World) (l : List Nat) (err : Nat) (e : Ending) (w' : World) : Prop :=
  ∃ A c, e = .returned (.tuple #[.slice A l.length c, .int .i64 (err : Int)]) ∧ IsB w' A l.length c l ∧ Below w.heap.size w w'
def markS (key secret : List Nat) : List Nat × Nat := if key.length = 32 ∧ secret.length = 16 then (encA (drawnA key 3 0) secret, 0) else ([], 2)
theorem run_toArray (W : World) (X : Addr) (c : Nat) : (Instr.arrayAt 205 (.slice (some X) 16 c)).run Try.prog W = .ok (.pointer (some X)) W := by
  unfold Instr.arrayAt
  rw [Sem.run_bind, run_underlying Try.underlying205 W]
  rfl
theorem isB_cells {w : World} {x : Addr} {n c : Nat} {l : List Nat} (h : IsB w (some x) n c l) : ∀ j v, (l.map (fun n : Nat => Value.int .u8 (n : Int)))[j]? = some v → w.cell? (x.add j) = some v := fun j v hj => cell_isB h j v hj
section
variable {w w' : World} {B : Nat} {cs : Array Value}
end
def wrapA (root : List Nat) (ten gn cm : Nat) (key : List Nat) : List Nat := sealA (drawnA root 2 gn) (nonH ten cm) (besH ten gn) key
def unwrapA (root : List Nat) (ten gn cm : Nat) (s : List Nat) : List Nat × Nat := openS (drawnA root 2 gn) (nonH ten cm) (besH ten gn) s
theorem gokH {root : List Nat} (ten gn cm : Nat) : GOk (drawnA root 2 gn) (nonH ten cm) := ⟨.inr (drawnA_len _ _ _), nonH_len _ _⟩
end Go.Proofs.Ytmeakfocppooiaa

namespace Go.Proofs.Ytmeakfocppooiaa
open Go.RowKit
set_option linter.unusedVariables false

theorem digB_at (m : Nat) : ∀ n k, k < n → at' (digB m n) k = m / 256 ^ (n - 1 - k) % 256
  | 0, k, h => by omega
  | n + 1, 0, h => by rw [digB_succ]; rfl
  | n + 1, k + 1, h => by
    rw [digB_succ]
    show at' (digB m n) k = _
    rw [digB_at m n k (by omega)]
    congr 2
    congr 1
    omega
theorem pow_256 (i : Nat) : (256 : Nat) ^ i = 2 ^ (8 * i) := by rw [Nat.pow_mul]
/-- a fresh block of noughts -/
def NewB (w0 : World) (v : Value) (W : World) : Prop := ∃ g, v = .pointer (some ⟨g, 0, none⟩) ∧ Bk W g 205 z16 ∧ w0.heap.size ≤ g
theorem NewB.mono (w0 : World) : Mono (NewB w0) := fun v W W' ⟨g, h1, h2, h3⟩ hb => ⟨g, h1, h2.ab hb, h3⟩
end Go.Proofs.Ytmeakfocppooiaa

namespace Go.Proofs.Ytmeakfocppooiaa
open Go.RowKit
set_option linter.unusedVariables false

end Go.Proofs.Ytmeakfocppooiaa

namespace Go.Proofs.Ytmeakfocppooiaa
open Go.RowKit
set_option linter.unusedVariables false

theorem byt_map_inj {a b : List Nat} (ha : Byt a) (hb : Byt b) (h : a.map UInt8.ofNat = b.map UInt8.ofNat) : a = b := (strOf_inj ha hb).1 (by unfold strOf; rw [h])
theorem strOf_toList (l : List Nat) : (strOf l).toList = l.map UInt8.ofNat := ByteArray.toList_mk _
theorem str_eq {x y : List Nat} (hx : Byt x) (hy : Byt y) : ((strOf x).toList == (strOf y).toList) = decide (x = y) := by
  rw [strOf_toList, strOf_toList]
  by_cases h : x = y
  · rw [decide_eq_true h, h]; simp
  · rw [decide_eq_false h, beq_eq_false_iff_ne]
    exact fun e => h (byt_map_inj hx hy e)
theorem isB_marked {w : World} {g n : Nat} {t : TypeId} {fr : Nat × Nat} {l : List Nat} (h : w.heap[g]? = some (.cells (bts l) t fr)) (hb : Byt l) (hl : l.length = n) (hn : n ≤ 9223372036854775807) : IsB w (some ⟨g, 0, none⟩) n n l := by
  refine ⟨⟨by simp [hl], Nat.le_refl _, hn, byt_wf hb, .inr ⟨⟨g, 0, none⟩, rfl, fun _ => lt_of_block h, fun i hi => ?_⟩⟩, hb⟩
  have hc : w.cell? ⟨g, i, none⟩ = (bts l)[i]? := Joins.cell_of_block h i
  have e : (⟨g, 0, none⟩ : Addr).add i = ⟨g, i, none⟩ := by rw [Addr.add_mid, Nat.zero_add]
  rw [e, hc]
  simp [bts, List.getD_eq_getElem?_getD, List.getElem?_eq_getElem (show i < l.length by omega)]
theorem OwB.ty {w : World} {B g n c : Nat} {l : List Nat} (h : OwB w B (.slice (some ⟨g, 0, none⟩) n c) l) (hl : 0 < l.length) : ∃ cs, w.heap[g]? = some (.cells cs 5 (0, 0)) := by
  rcases h.own.2 with ⟨h1, h0⟩ | ⟨g', cap, cur, e, hb', hgg, -⟩
  · cases h1
  · simp only [Value.slice.injEq, Option.some.injEq, Addr.mk.injEq, and_true] at e
    rw [e.1]
    exact ⟨_, hgg⟩
/-- bytes with a mark behind them -/
structure LentB (w : World) (g n c : Nat) (l : List Nat) : Prop where
  isB : IsB w (some ⟨g, 0, none⟩) n c l
  mark : w.cell? ⟨g, n, none⟩ = some (.int .u8 77)
  row : ∃ cs, w.heap[g]? = some (.cells cs 5 (0, 0))
  cap : n < c
theorem LentB.lt {w : World} {g n c : Nat} {l : List Nat} (h : LentB w g n c l) : g < w.heap.size := by
  obtain ⟨cs, h⟩ := h.row
  exact lt_of_block h
theorem LentB.ab {w w' : World} {g n c : Nat} {l : List Nat} (h : LentB w g n c l) (hb : Below w.heap.size w w') : LentB w' g n c l := ⟨h.isB.ab hb, (hb.cell (p := ⟨g, n, none⟩) h.lt).trans h.mark, (by obtain ⟨cs, e⟩ := h.row; exact ⟨cs, (hb.block g h.lt).trans e⟩), h.cap⟩
theorem LentB.rowFar {w : World} {g n c : Nat} {l : List Nat} (h : LentB w g n c l) {q : Nat} (hq : g ≠ q) (cs : Array Value) : LentB (w.setRow q cs) g n c l :=
  ⟨isB_rowFar h.isB (fun x e => by injection e with e; rw [← e]; exact hq) cs, (World.cell?_of_block (a := ⟨g, n, none⟩) (setRow_other w q g cs hq)).trans h.mark, (by obtain ⟨c0, e⟩ := h.row; exact ⟨c0, (setRow_other w q g cs hq).trans e⟩), h.cap⟩
def k0H : List Nat := [48, 49, 50, 51, 52, 53, 54, 55, 56, 57, 97, 98, 99, 100, 101, 102]
theorem k0H_byt : Byt k0H := by unfold Byt k0H; decide
theorem k0H_str : ((strOf k0H).toList == [48, 49, 50, 51, 52, 53, 54, 55, 56, 57, 97, 98, 99, 100, 101, 102]) = true := by decide +kernel
theorem wrap_len (root : List Nat) (ten gn cm : Nat) (key : List Nat) : (wrapA root ten gn cm key).length = key.length + 16 := sealA_len _ _ _ _
theorem unwrap_wrap {root : List Nat} (ten gn cm : Nat) {key : List Nat} (h : key.length = 16) : unwrapA root ten gn cm (wrapA root ten gn cm key) = (key, 0) := by
  unfold unwrapA wrapA
  exact open_seal (gokH ten gn cm) (by rw [besH_len]; decide) (by omega)
end Go.Proofs.Ytmeakfocppooiaa
