/-
  WALKS: seal.numbers, HeadOf, NonceOf, AadOf (P10.1).
  WALKS: seal.may, seal.Seal, seal.Open (P10.2).
-/
import Derived.Test.YtnnjmelibmiimaaGreatBdb
import Derived.Lib.SmallJoins
import Derived.Test.YtnnjmelibmiimaaGreatBda
import Derived.Laws.ResultCell
namespace Go.Proofs.YtnnjmelibmiimaaGreat
open Go.RowKit
set_option linter.unusedVariables false

/-- a label -/
structure Lb where
  ten : Nat
  k : Nat
  lv : Nat
  pg : Nat
  cm : Nat
  gn : Nat
  deriving DecidableEq
structure Lb.Ok (l : Lb) : Prop where
  ten : l.ten < 4294967296
  k : l.k < 256
  lv : l.lv < 256
  pg : l.pg < 4294967296
  cm : l.cm < 18446744073709551616
  gn : l.gn < 65536
def rowN (ps : List (Nat × Nat)) : Array Value := (ps.flatMap fun p => [Value.int .u64 (p.1 : Int), Value.int .u64 (p.2 : Int)]).toArray
theorem rowN_at : ∀ (ps : List (Nat × Nat)) (j : Nat) (p : Nat × Nat), ps[j]? = some p → (ps.flatMap fun p => [Value.int .u64 (p.1 : Int), Value.int .u64 (p.2 : Int)])[2 * j]? = some (.int .u64 (p.1 : Int)) ∧ (ps.flatMap fun p => [Value.int .u64 (p.1 : Int), Value.int .u64 (p.2 : Int)])[2 * j + 1]? = some (.int .u64 (p.2 : Int))
  | [], j, p, h => by simp at h
  | q :: ps, 0, p, h => by
    simp only [List.getElem?_cons_zero, Option.some.injEq] at h
    subst h
    exact ⟨rfl, rfl⟩
  | q :: ps, j + 1, p, h => by
    have := rowN_at ps j p (by simpa using h)
    rw [show 2 * (j + 1) = 2 * j + 1 + 1 by omega]
    exact this
def NumB (w : World) (g : Nat) (ps : List (Nat × Nat)) : Prop := w.heap[g]? = some (.cells (rowN ps) 32 (0, 0))
theorem NumB.lt {w : World} {g : Nat} {ps : List (Nat × Nat)} (h : NumB w g ps) : g < w.heap.size := lt_of_block h
theorem NumB.below {w w' : World} {g : Nat} {ps : List (Nat × Nat)} (h : NumB w g ps) (hb : Below w.heap.size w w') : NumB w' g ps := (hb.block g h.lt).trans h
theorem NumB.at {w : World} {g : Nat} {ps : List (Nat × Nat)} (h : NumB w g ps) {j : Nat} {p : Nat × Nat} (hj : ps[j]? = some p) : w.cell? ⟨g, 2 * j, none⟩ = some (.int .u64 (p.1 : Int)) ∧ w.cell? ⟨g, 2 * j + 1, none⟩ = some (.int .u64 (p.2 : Int)) := by
  have := rowN_at ps j p hj
  rw [cell_of_row w g _ _ _ (0, 0) h, cell_of_row w g _ _ _ (0, 0) h]
  simpa [rowN] using this
def NumOk (ps : List (Nat × Nat)) : Prop := ∀ p ∈ ps, p.1 < 18446744073709551616 ∧ 1 ≤ p.2 ∧ p.2 ≤ 8 ∧ p.1 < 256 ^ p.2
def headN (l : Lb) : List (Nat × Nat) := [(l.k, 1), (l.lv, 1), (l.gn, 2), (l.cm, 8)]
def nonceN (l : Lb) : List (Nat × Nat) := [(l.pg, 4), (l.cm, 8)]
theorem Lb.Ok.head {l : Lb} (h : l.Ok) : NumOk (headN l) := by
  have h1 := h.k; have h2 := h.lv; have h3 := h.gn; have h4 := h.cm
  intro p hp
  simp only [headN, List.mem_cons, List.not_mem_nil, or_false] at hp
  rcases hp with rfl | rfl | rfl | rfl <;> refine ⟨?_, ?_, ?_, ?_⟩ <;> simp only <;> omega
theorem Lb.Ok.nonce {l : Lb} (h : l.Ok) : NumOk (nonceN l) := by
  have h1 := h.pg; have h4 := h.cm
  intro p hp
  simp only [nonceN, List.mem_cons, List.not_mem_nil, or_false] at hp
  rcases hp with rfl | rfl <;> refine ⟨?_, ?_, ?_, ?_⟩ <;> simp only <;> omega
section
variable {w w' : World} {B : Nat} {l : Lb}
end
theorem wide_u64 (n : Nat) (h : n < 18446744073709551616) : IntKind.u64.wrap (n : Int) = (n : Int) := wrap_u64' (n := n) (by omega) _ (by omega) (by omega)
theorem NumB.newAt (w : World) (ps : List (Nat × Nat)) {n : Nat} (h : n = w.heap.size) : NumB (w.alloc (.cells (rowN ps) 32)) n ps := by subst h; exact heap_alloc_new w _
theorem isB_marked {w : World} {g n : Nat} {t : TypeId} {fr : Nat × Nat} {l : List Nat} (h : w.heap[g]? = some (.cells (bts l) t fr)) (hb : Byt l) (hl : l.length = n) (hn : n ≤ 9223372036854775807) : IsB w (some ⟨g, 0, none⟩) n n l := by
  refine ⟨⟨by simp [hl], Nat.le_refl _, hn, byt_wf hb, .inr ⟨⟨g, 0, none⟩, rfl, fun _ => lt_of_block h, fun i hi => ?_⟩⟩, hb⟩
  have hc : w.cell? ⟨g, i, none⟩ = (bts l)[i]? := Joins.cell_of_block h i
  have e : (⟨g, 0, none⟩ : Addr).add i = ⟨g, i, none⟩ := by rw [Addr.add_mid, Nat.zero_add]
  rw [e, hc]
  simp [bts, List.getD_eq_getElem?_getD, List.getElem?_eq_getElem (show i < l.length by omega)]
end Go.Proofs.YtnnjmelibmiimaaGreat

namespace Go.Proofs.YtnnjmelibmiimaaGreat
open Go.RowKit
set_option linter.unusedVariables false

/-- a key and a kind that may be -/
def SOk (key : List Nat) (l : Lb) : Prop := KeyOk key ∧ 1 ≤ l.k ∧ l.k ≤ 4
instance (key : List Nat) (l : Lb) : Decidable (SOk key l) := by unfold SOk KeyOk; infer_instance
end Go.Proofs.YtnnjmelibmiimaaGreat
namespace Go.Proofs.YtnnjmelibmiimaaGreat
open Go.RowKit
set_option linter.unusedVariables false

end Go.Proofs.YtnnjmelibmiimaaGreat

namespace Go.Proofs.YtnnjmelibmiimaaGreat
open Go.RowKit
set_option linter.unusedVariables false

/-- a ring's keys, in the order in which they came -/
abbrev RgL := List ((Nat × Nat) × List Nat)
def getR (x : Nat × Nat) (l : RgL) : Option (List Nat) := (l.find? fun p => decide (p.1 = x)).map (·.2)
/-- values that are bytes of the call's own -/
def RgV (w : World) (B : Nat) : List ((Nat × Nat) × Value) → RgL → Prop
  | [], [] => True
  | p :: ps, q :: qs => (p.1 = q.1 ∧ OwB w B p.2 q.2) ∧ RgV w B ps qs
  | _, _ => False
theorem RgV.imp {w w' : World} {B : Nat} : ∀ {vs : List ((Nat × Nat) × Value)} {l : RgL}, RgV w B vs l → (∀ v k, OwB w B v k → OwB w' B v k) → RgV w' B vs l
  | [], [], _, _ => trivial
  | p :: ps, q :: qs, h, hi => ⟨⟨h.1.1, hi _ _ h.1.2⟩, RgV.imp h.2 hi⟩
  | [], _ :: _, h, _ => h.elim
  | _ :: _, [], h, _ => h.elim
theorem RgV.look {w : World} {B : Nat} (x : Nat × Nat) : ∀ {vs : List ((Nat × Nat) × Value)} {l : RgL}, RgV w B vs l →
    (lookL x vs = none ∧ getR x l = none) ∨ ∃ v k, lookL x vs = some v ∧ getR x l = some k ∧ OwB w B v k
  | [], [], _ => .inl ⟨rfl, rfl⟩
  | p :: ps, q :: qs, h => by
    have ih := RgV.look x h.2
    obtain ⟨⟨h1, h2⟩, h3⟩ := h
    unfold lookL getR at ih ⊢
    by_cases hx : p.1 = x
    · rw [List.find?_cons_of_pos (by simpa using hx), List.find?_cons_of_pos (by rw [← h1]; simpa using hx)]
      exact .inr ⟨_, _, rfl, rfl, h2⟩
    · rw [List.find?_cons_of_neg (by simpa using hx), List.find?_cons_of_neg (by rw [← h1]; simpa using hx)]
      exact ih
  | [], _ :: _, h => h.elim
  | _ :: _, [], h => h.elim
theorem RgV.snoc {w : World} {B : Nat} {x : Nat × Nat} {v : Value} {k : List Nat} (hv : OwB w B v k) : ∀ {vs : List ((Nat × Nat) × Value)} {l : RgL}, RgV w B vs l → RgV w B (vs ++ [(x, v)]) (l ++ [(x, k)])
  | [], [], _ => ⟨⟨rfl, hv⟩, trivial⟩
  | p :: ps, q :: qs, h => ⟨h.1, RgV.snoc hv h.2⟩
  | [], _ :: _, h => h.elim
  | _ :: _, [], h => h.elim
theorem RgV.drop {w : World} {B : Nat} (x : Nat × Nat) : ∀ {vs : List ((Nat × Nat) × Value)} {l : RgL}, RgV w B vs l → RgV w B (dropL x vs) (l.filter fun p => !decide (p.1 = x))
  | [], [], _ => trivial
  | p :: ps, q :: qs, h => by
    have ih := RgV.drop x h.2
    obtain ⟨⟨h1, h2⟩, h3⟩ := h
    unfold dropL at ih ⊢
    by_cases hx : p.1 = x
    · rw [List.filter_cons_of_neg (by simpa using hx), List.filter_cons_of_neg (by rw [← h1]; simpa using hx)]
      exact ih
    · rw [List.filter_cons_of_pos (by simpa using hx), List.filter_cons_of_pos (by rw [← h1]; simpa using hx)]
      exact ⟨⟨h1, h2⟩, ih⟩
  | [], _ :: _, h => h.elim
  | _ :: _, [], h => h.elim
section
variable {w w' : World} {B g m : Nat} {l : RgL}
theorem RgV.ab {vs : List ((Nat × Nat) × Value)} (h : RgV w B vs l) (hb : Below w.heap.size w w') : RgV w' B vs l := h.imp fun _ _ ho => ho.ab hb
end
theorem empty_own (w : World) : OwB (w.alloc (.cells #[] 5)) w.heap.size (.slice (some ⟨w.heap.size, 0, none⟩) 0 0) [] :=
  OwB.ofBk (l' := []) (show Bk (w.alloc (.cells (bts []) 5)) w.heap.size 5 [] from Bk.newAt _ [] rfl) (Nat.le_refl _) rfl (Nat.le_refl _) rfl (by decide) rfl (fun x hx => by cases hx)
end Go.Proofs.YtnnjmelibmiimaaGreat

namespace Go.Proofs.YtnnjmelibmiimaaGreat
open Go.RowKit
set_option linter.unusedVariables false

/-- a slice without room -/
def EmR (v : Value) (_ : World) : Prop := ∃ X : Addr, v = .slice (some X) 0 0
theorem EmR.mono : Mono EmR := fun _ _ _ h _ => h
theorem OwB.grown {w w' : World} {B : Nat} {v : Value} {l : List Nat} {r : Nat} (h : OwB w B v l) (hg : w.grownBy w' (some r)) (hne : v.ownBlock ≠ some r) : OwB w' B v l := h.kept hg (.inr hne)
end Go.Proofs.YtnnjmelibmiimaaGreat
namespace Go.Proofs.YtnnjmelibmiimaaGreat
open Go.RowKit
set_option linter.unusedVariables false

/-- a meta page -/
structure Mp where
  cm : Nat
  pg : Nat
  rc : Nat
  rg : Nat
  lv : Nat
  gn : Nat
  tn : Nat
deriving DecidableEq
structure Mp.Ok (m : Mp) : Prop where
  cm : m.cm < 18446744073709551616
  pg : m.pg < 4294967296
  rc : m.rc < 18446744073709551616
  rg : m.rg < 65536
  lv : m.lv < 256
  gn : m.gn < 65536
  tn : m.tn < 4294967296
/-- a block with just these cells -/
def CbB (w : World) (g : Nat) (T : TypeId) (cs : Array Value) : Prop := w.heap[g]? = some (.cells cs T (0, 0))
section
variable {w w' : World} {g : Nat} {T : TypeId} {cs : Array Value}
theorem CbB.lt (h : CbB w g T cs) : g < w.heap.size := lt_of_block h
theorem CbB.low {C : Nat} (h : CbB w g T cs) (hb : Below C w w') (hC : g < C) : CbB w' g T cs := (hb.block g hC).trans h
theorem CbB.ab (h : CbB w g T cs) (hb : Below w.heap.size w w') : CbB w' g T cs := (hb.block g h.lt).trans h
theorem CbB.grown {r : Nat} (h : CbB w g T cs) (hg : w.grownBy w' (some r)) (hr : g ≠ r) : CbB w' g T cs := (hg.block g h.lt (by simp [hr])).trans h
theorem CbB.new (w : World) (T : TypeId) (cs : Array Value) : CbB (w.alloc (.cells cs T)) w.heap.size T cs := heap_alloc_new w _
theorem CbB.cell (h : CbB w g T cs) {k : Nat} {v : Value} (hk : cs[k]? = some v) : w.cell? ⟨g, k, none⟩ = some v := by rw [cell_of_row w g k _ _ (0, 0) h]; exact hk
theorem CbB.free (h : CbB w g T cs) (k : Nat) : w.frozen? ⟨g, k, none⟩ = false := frozen_of_row w g k _ _ h
theorem CbB.set (h : CbB w g T cs) (k : Nat) (v : Value) : CbB (w.setCell ⟨g, k, none⟩ v) g T (cs.setIfInBounds k v) := heap_setCell_same w g k _ _ v h
theorem CbB.far (h : CbB w g T cs) {c k : Nat} (hne : g ≠ c) (u : Value) : CbB (w.setCell ⟨c, k, none⟩ u) g T cs := (Below.heap_setCell w ⟨c, k, none⟩ u g hne).trans h
end
/-- a struct is stored whole: the new world's name -/
theorem wpList_storeC {P : Program} {ops : Array Oper} {rest : List Oper} {o : Oper} {a : Act} {w : World} {Q : Exit → Act → World → Prop} (hgd : o.guard = none) (T : TypeId) (x y : Operand) (ho : o.op = .store T x y)
    (g : Nat) (hx : a.eval x = .pointer (some ⟨g, 0, none⟩)) (cs' : Array Value) (hy : a.eval y = .agg cs') {cs : Array Value} {t : TypeId} (hg : CbB w g t cs) (hi : (P.info? T).map (·.size) = some cs'.size) (h0 : cs.size = cs'.size) (h1 : cs'.all (·.oneCell') = true)
    (h : ∀ w2, w2 = w.setRow g cs' → wpList P ops Q rest (a.put o.dst undef) w2) : wpList P ops Q (o :: rest) a w := by
  have hrun := run_storeVar_row (P := P) w g t T cs cs' hg hi h0 h1
  refine wpList_plain hgd fun K hK => ?_
  have hK := hK _ _ (h _ rfl)
  unfold Oper.wp execOp
  simp only [ho, hx, hy, Instr.storeAt, Instr.sureAddr, Sem.run_bind, Sem.run_pure, Result.andThen_ok, hrun]
  exact hK
theorem CbB.row {w : World} {g : Nat} {T : TypeId} {cs : Array Value} (h : CbB w g T cs) (cs' : Array Value) : CbB (w.setRow g cs') g T cs' := setRow_heap w g _ _ _ _ h
end Go.Proofs.YtnnjmelibmiimaaGreat
namespace Go.Proofs.YtnnjmelibmiimaaGreat
open Go.RowKit
set_option linter.unusedVariables false

section
variable {P : Program} {Q : Exit → Act → World → Prop}
end
end Go.Proofs.YtnnjmelibmiimaaGreat

namespace Go.Proofs.YtnnjmelibmiimaaGreat
open Go.RowKit
set_option linter.unusedVariables false

section
variable {P : Program} {Q : Exit → Act → World → Prop}
/-- what was there is as it was, but for the blocks of F -/
structure Fr (w w' : World) (F : Nat → Prop) : Prop where
  os : w'.os = w.os
  tape : w'.tape = w.tape
  output : w'.output = w.output
  size : w.heap.size ≤ w'.heap.size
  block : ∀ k, k < w.heap.size → ¬ F k → w'.heap[k]? = w.heap[k]?
theorem Fr.of {w w' : World} (hb : Below w.heap.size w w') (F : Nat → Prop) : Fr w w' F := ⟨hb.os, hb.tape, hb.output, hb.size, fun i hi _ => hb.block i hi⟩
theorem Fr.tr {a b c : World} {F : Nat → Prop} (h : Fr a b F) (k : Fr b c F) : Fr a c F := ⟨k.os.trans h.os, k.tape.trans h.tape, k.output.trans h.output, Nat.le_trans h.size k.size, fun i hi hn => (k.block i (Nat.lt_of_lt_of_le hi h.size) hn).trans (h.block i hi hn)⟩
theorem Fr.imp {w w' : World} {F G : Nat → Prop} (h : Fr w w' F) (hi : ∀ k, F k → G k) : Fr w w' G := ⟨h.os, h.tape, h.output, h.size, fun k hk hn => h.block k hk fun hf => hn (hi k hf)⟩
theorem Fr.grown {w w' : World} {row : Option Nat} (h : w.grownBy w' row) : Fr w w' (fun k => row = some k) := ⟨h.os, h.tape, h.output, h.size, fun k hk hn => h.block k hk fun e => hn e.symm⟩
theorem Fr.below {w w' : World} {F : Nat → Prop} {B : Nat} {a : World} (h : Fr w w' F) (hF : ∀ k, F k → B ≤ k) (hb : Below B a w) (hs : B ≤ w.heap.size) : Below B a w' :=
  hb.trans ⟨h.os, h.tape, h.output, h.size, fun k hk => h.block k (by omega) fun hf => by have := hF k hf; omega⟩
def othF (F : Nat → Nat → Prop) (i k : Nat) : Prop := ∃ j, j ≠ i ∧ F j k
def allF (F : Nat → Nat → Prop) (k : Nat) : Prop := ∃ j, F j k
theorem Fr.all {w w' : World} {F : Nat → Nat → Prop} {i : Nat} (h : Fr w w' (othF F i)) : Fr w w' (allF F) := h.imp fun k ⟨j, _, hj⟩ => ⟨j, hj⟩
def All5 (q : Nat → Head → Oper → Prop) : Nat → List Head → List Oper → Prop
  | _, [], _ => True
  | k, h :: hs, o :: l => q k h o ∧ All5 q (k + 1) hs l
  | _, _ :: _, [] => False
theorem All5.at {q : Nat → Head → Oper → Prop} : ∀ {k : Nat} {hs : List Head} {l : List Oper}, All5 q k hs l → ∀ (i : Nat) (h : Head) (o : Oper), hs[i]? = some h → l[i]? = some o → q (k + i) h o
  | k, h :: hs, o :: l, hA, 0, h', o', e1, e2 => by
    simp only [List.getElem?_cons_zero, Option.some.injEq] at e1 e2
    subst e1 e2
    exact hA.1
  | k, h :: hs, o :: l, hA, i + 1, h', o', e1, e2 => by
    have := All5.at hA.2 i h' o' (by simpa using e1) (by simpa using e2)
    rw [show k + (i + 1) = k + 1 + i by omega]
    exact this
  | _, [], _, _, i, _, _, e1, _ => by simp at e1
  | _, _ :: _, [], hA, _, _, _, _, _ => hA.elim
end
end Go.Proofs.YtnnjmelibmiimaaGreat

namespace Go.Proofs.YtnnjmelibmiimaaGreat
open Go.RowKit
set_option linter.unusedVariables false

section
variable {P : Program} {Q : Exit → Act → World → Prop}
def Inv6 (hs : List Head) (a0 : Act) (G : World → Prop) (Pre : Nat → World → Prop) (listed : Array Bool) (a : Act) (W : World) : Prop :=
  Agree (hs.map (·.dst)) a0 a ∧ G W ∧ (∀ j, listed.getD j false = false → Pre j W) ∧ ∀ (i : Nat) (h : Head), hs[i]? = some h → listed.getD i false = true → h.R (a.eval (.tmp h.dst)) W
def Yields6 (P : Program) (o : Oper) (a : Act) (W : World) (S : World → World → Prop) (R : Value → World → Prop) : Prop :=
  (∃ v W', (execOp a.eval o).run P W = .ok (.value v) W' ∧ R v W' ∧ S W W') ∨ (∃ f args, (execOp a.eval o).run P W = .ok (.enter f args) W ∧ Calls P f args W fun e W' => ∃ v, e = .returned v ∧ R v W' ∧ S W W')
theorem Yields.to6 {o : Oper} {a : Act} {W : World} {fr : Bool} {R : Value → World → Prop} {S : World → World → Prop} (h : Yields P o a W fr R) (hs : ∀ W', Below W.heap.size W W' → S W W') : Yields6 P o a W S R := by
  rcases h with ⟨v, W', h1, h2, h3, _⟩ | ⟨f, args, h1, h2⟩
  · exact .inl ⟨v, W', h1, h2, hs _ h3⟩
  · exact .inr ⟨f, args, h1, h2.mono fun e W' ⟨v, he, hR, hb, _⟩ => ⟨v, he, hR, hs _ hb⟩⟩
def Takes6 (P : Program) (ops : Array Oper) (o : Oper) (a : Act) (W : World) (S : World → World → Prop) (R : Value → World → Prop) : Prop :=
  (Region.wanted o (yielded ops a.tmps) = true ∧ Yields6 P o a W S R) ∨ (Region.wanted o (yielded ops a.tmps) = false ∧ R undef W)
theorem Takes.to6 {ops : Array Oper} {o : Oper} {a : Act} {W : World} {fr : Bool} {R : Value → World → Prop} {S : World → World → Prop} (h : Takes P ops o a W fr R) (hs : ∀ W', Below W.heap.size W W' → S W W') : Takes6 P ops o a W S R := by
  rcases h with ⟨h1, h2⟩ | ⟨h1, h2, _⟩
  · exact .inl ⟨h1, h2.to6 hs⟩
  · exact .inr ⟨h1, h2⟩
theorem wide6_any {l : List Oper} {hs : List Head} {a0 : Act} {g : Nat} {G : World → Prop} {Pre : Nat → World → Prop} {S : Nat → World → World → Prop} (hW : wideB l.toArray hs.length (hs.map (·.deps)).toArray = true) (hg : (l.drop hs.length).length = g)
    (hdst : ∀ (i : Nat) (h : Head) (o : Oper), hs[i]? = some h → l[i]? = some o → o.dst = some h.dst) (hlen : hs.length ≤ l.length) (hin : ∀ h ∈ hs, h.dst < a0.tmps.size) (hdis : (hs.map (·.dst)).Nodup)
    (hS : ∀ i j, i ≠ j → ∀ W W', S i W W' → Pre j W → Pre j W') (hG : ∀ i W W', S i W W' → G W → G W') (h0 : ∀ i W, S i W W)
    (hm : ∀ (i : Nat) (h : Head), hs[i]? = some h → ∀ j, j ≠ i → ∀ v W W', h.R v W → S j W W' → h.R v W')
    (hy : ∀ (i : Nat) (h : Head) (o : Oper), hs[i]? = some h → l[i]? = some o → ∀ a W, Agree (hs.map (·.dst)) a0 a → G W → Pre i W → (∀ j ∈ h.deps, ∀ (hj : Head), hs[j]? = some hj → hj.R (a.eval (.tmp hj.dst)) W) → Takes6 P l.toArray o a W (S i) h.R)
    (hk : ∀ a W, Agree (hs.map (·.dst)) a0 a → G W → (∀ (i : Nat) (h : Head), hs[i]? = some h → h.R (a.eval (.tmp h.dst)) W) → wpList P l.toArray Q (l.drop hs.length) a W) :
    ∀ (f : Nat) (listed : Array Bool) (a : Act) (W : World), HeadInv .any l.toArray hs.length listed → unl listed hs.length = f → Inv6 hs a0 G Pre listed a W → wpAny P .any l.toArray Q (f + g) listed a W
  | 0, listed, a, W, inv, hu, hI => by
    have hWd := wide_of hW
    have hall := unl_zero _ hu
    rw [Nat.zero_add]
    have hsq := hWd.seq
    rw [← all_listed inv hWd.lt hall, show l.toArray.size - hs.length = g by rw [← hg]; simp] at hsq
    have := wpAny_of_seq (md := .any) (Q' := Q) (P := P) (l.drop hs.length) hs.length listed a W (fun j => by simp [List.getElem?_drop]) (by rw [hg]; exact hsq) (hk a W hI.1 hI.2.1 (fun i h hi => hI.2.2.2 i h hi (hall i (lt_of_some hi))))
    rwa [hg] at this
  | f + 1, listed, a, W, inv, hu, hI => by
    have hWd := wide_of hW
    obtain ⟨i0, hi0, hun0, hlow0⟩ := unl_pos (listed := listed) hs.length (by omega)
    have hsz := inv.size
    have hun0' : listed.getD i0 true = false := getD_in (by have := hWd.lt; omega) hun0
    rw [show f + 1 + g = (f + g) + 1 by omega]
    have hne : i0 ∈ Region.ready .any l.toArray listed := by
      obtain ⟨o, ho, hb⟩ := hWd.low i0 hi0
      exact mem_ready.2 ⟨hun0', o, ho, fun e he hbd => hlow0 _ (hb e he hbd)⟩
    refine ⟨fun e => (by rw [e] at hne; cases hne), fun i hi => ?_⟩
    have hin2 : i < hs.length := by
      rcases Nat.lt_or_ge i hs.length with h | h
      · exact h
      · exact absurd hi (tail_waits hWd.sink hWd.chain hWd.lt inv _ i0 rfl hi0 hun0' i h)
    have hdep : ∀ d ∈ ((hs.map (·.deps)).toArray.getD i []), listed.getD d false = true := fun d hd => by
      obtain ⟨_, oi, hoi, hall⟩ := mem_ready.1 hi
      obtain ⟨oj, hoj, e, he, hb, hon⟩ := Region.waitsFor_spec (hWd.dep i hin2 d hd).2
      have : oj = oi := Option.some.inj (hoj.symm.trans hoi)
      subst this
      rw [← hon]
      exact hall e he hb
    have hrec : unl (listed.setIfInBounds i true) hs.length = f := by
      have := unl_set (listed := listed) (i := i) (by have := hWd.lt; omega) (getD_both (mem_ready.1 hi).1) hs.length hin2
      omega
    have hiun : listed.getD i false = false := getD_both (mem_ready.1 hi).1
    have hil : i < l.length := by omega
    obtain ⟨h, hh⟩ : ∃ h, hs[i]? = some h := ⟨_, List.getElem?_eq_getElem hin2⟩
    obtain ⟨o, ho⟩ : ∃ o, l[i]? = some o := ⟨_, List.getElem?_eq_getElem hil⟩
    have hd := hdst i h o hh ho
    have hmem : h ∈ hs := List.mem_of_getElem? hh
    have hdep2 : ∀ j ∈ h.deps, ∀ (hj : Head), hs[j]? = some hj → hj.R (a.eval (.tmp hj.dst)) W := fun j hj hj' hjj => by
      have hd1 : ((hs.map (·.deps)).toArray.getD i []) = h.deps := by simp [hh]
      exact hI.2.2.2 j hj' hjj (hdep j (by rw [hd1]; exact hj))
    have hself : ∀ v, (a.put (some h.dst) v).eval (.tmp h.dst) = v := fun v => by
      have hs1 : h.dst < a.tmps.size := by rw [hI.1.2.1]; exact hin h hmem
      simp [Act.put, Act.eval, hs1]
    have hoth : ∀ v (j : Nat) (hj : Head), hs[j]? = some hj → j ≠ i → (a.put (some h.dst) v).eval (.tmp hj.dst) = a.eval (.tmp hj.dst) := fun v j hj hjj hij => by
      refine eval_put_ne (fun e => hij ?_) _ _
      have hjl := lt_of_some hjj
      have e1 : (hs.map (·.dst))[j]'(by simpa using hjl) = (hs.map (·.dst))[i]'(by simpa using hin2) := by
        rw [List.getElem?_eq_getElem hjl] at hjj
        rw [List.getElem?_eq_getElem hin2] at hh
        injection hjj with hjj
        injection hh with hh
        simp only [List.getElem_map, hjj, hh]
        exact e.symm
      exact (List.getElem_inj hdis).1 e1
    have hlis : ∀ (j : Nat), j ≠ i → (listed.setIfInBounds i true).getD j false = listed.getD j false := fun j hij => by
      rw [Array.getD_eq_getD_getElem?, Array.getElem?_setIfInBounds_ne (Ne.symm hij), Array.getD_eq_getD_getElem?]
    have key : ∀ v W', h.R v W' → S i W W' → wpAny P .any l.toArray Q (f + g) (listed.setIfInBounds i true) (a.put (some h.dst) v) W' := fun v W' hR hfr => by
      refine wide6_any hW hg hdst hlen hin hdis hS hG h0 hm hy hk f _ _ _ (inv.set hi hin2) hrec ⟨hI.1.put (List.mem_map.2 ⟨h, hmem, rfl⟩) v, hG i _ _ hfr hI.2.1, fun j hj => ?_, fun j hj hjj hlj => ?_⟩
      · have hji : j ≠ i := fun e => by
          subst e
          rw [Array.getD_eq_getD_getElem?, Array.getElem?_setIfInBounds_self_of_lt (by have := hWd.lt; omega)] at hj
          cases hj
        rw [hlis j hji] at hj
        exact hS i j (Ne.symm hji) _ _ hfr (hI.2.2.1 j hj)
      · by_cases hij : j = i
        · subst hij
          rw [hh] at hjj
          injection hjj with hjj
          subst hjj
          rw [hself]
          exact hR
        · rw [hoth v j hj hjj hij]
          rw [hlis j hij] at hlj
          exact hm j hj hjj i (Ne.symm hij) _ _ _ (hI.2.2.2 j hj hjj hlj) hfr
    unfold wpOp
    rw [show l.toArray[i]? = some o by simpa using ho]
    simp only
    rcases hy i h o hh ho a W hI.1 hI.2.1 (hI.2.2.1 i hiun) hdep2 with ⟨hwt, hyl⟩ | ⟨hwt, hR⟩
    · rw [if_pos hwt]
      refine .inl ?_
      unfold Oper.wp
      rcases hyl with ⟨v, W', hr, hR, hb⟩ | ⟨fn, args, hr, hc⟩
      · rw [hr]
        simp only [Oper.upon, hd]
        exact key v W' hR hb
      · rw [hr]
        simp only [Oper.upon, hd]
        exact hc.mono fun e W' ⟨v, he, hR, hb⟩ => by subst he; exact key v W' hR hb
    · rw [if_neg (by rw [hwt]; exact Bool.false_ne_true)]
      rw [hd]
      exact key undef W hR (h0 i W)
end
end Go.Proofs.YtnnjmelibmiimaaGreat
namespace Go.Proofs.YtnnjmelibmiimaaGreat
open Go.RowKit
set_option linter.unusedVariables false

theorem grown_of {w w' : World} (hb : Below w.heap.size w w') (row : Option Nat) : w.grownBy w' row := ⟨hb.os, hb.tape, hb.output, hb.size, fun i hi _ => hb.block i hi⟩
theorem grown_cell (w : World) (g k : Nat) (v : Value) : w.grownBy (w.setCell ⟨g, k, none⟩ v) (some g) := ⟨rfl, rfl, rfl, by simp, fun i hi hn => Below.heap_setCell w ⟨g, k, none⟩ v i (fun e => hn (by rw [e]))⟩
theorem below_grown {B : Nat} {a b c : World} {r : Nat} (h : Below B a b) (k : b.grownBy c (some r)) (hr : B ≤ r) (hs : B ≤ b.heap.size) : Below B a c := h.trans ⟨k.os, k.tape, k.output, k.size, fun i hi => k.block i (by omega) (by simp; omega)⟩
theorem row_at {W : World} {G : Nat} {T : TypeId} {cs : List Value} (h : CbB W G T cs.toArray) : ∀ (j : Nat) u, cs[j]? = some u → W.cell? ((⟨G, 0, none⟩ : Addr).add j) = some u := fun j u hj => by
  rw [Addr.add_mid, Nat.zero_add]
  exact h.cell (by simpa using hj)
theorem own_ge9 {w : World} {B n s : Nat} {e : TypeId} {v : Value} {xs : List Value} (h : w.ownsRow B e s v n xs) : ∀ g, v.ownBlock = some g → B ≤ g := by
  rcases h.2 with ⟨rfl, _⟩ | ⟨g, cap, cur, rfl, hg, _⟩
  · intro g hg; cases hg
  · intro g' hg'
    have : g = g' := by injection hg'
    omega
theorem row_shape {w : World} {B n s : Nat} {e : TypeId} {v : Value} {xs : List Value} (h : w.ownsRow B e s v n xs) : ∃ A c, v = .slice A n c := by
  rcases h.2 with ⟨rfl, h0⟩ | ⟨g, cap, cur, rfl, _⟩
  · subst h0
    exact ⟨_, _, rfl⟩
  · exact ⟨_, _, rfl⟩
theorem row_low {w : World} {B B' n s : Nat} {e : TypeId} {v : Value} {xs : List Value} (h : w.ownsRow B e s v n xs) (hB : B' ≤ B) : w.ownsRow B' e s v n xs := by
  refine ⟨h.1, ?_⟩
  rcases h.2 with hn | ⟨g, cap, cur, e1, hb', rest⟩
  · exact .inl hn
  · exact .inr ⟨g, cap, cur, e1, by omega, rest⟩
end Go.Proofs.YtnnjmelibmiimaaGreat
namespace Go.Proofs.YtnnjmelibmiimaaGreat
open Go.RowKit
set_option linter.unusedVariables false

theorem RgV.at {w : World} {B : Nat} : ∀ {vs : List ((Nat × Nat) × Value)} {l : RgL}, RgV w B vs l → ∀ {i : Nat} {q : (Nat × Nat) × List Nat}, l[i]? = some q → ∃ v, vs[i]? = some (q.1, v) ∧ OwB w B v q.2
  | [], [], _, i, q, hq => by simp at hq
  | p :: ps, q0 :: qs, h, 0, q, hq => by
    simp only [List.getElem?_cons_zero, Option.some.injEq] at hq
    subst hq
    exact ⟨p.2, by rw [← h.1.1]; rfl, h.1.2⟩
  | p :: ps, q0 :: qs, h, i + 1, q, hq => by
    obtain ⟨v, h1, h2⟩ := RgV.at h.2 (i := i) (q := q) (by simpa using hq)
    exact ⟨v, by simpa using h1, h2⟩
  | [], _ :: _, h, _, _, _ => h.elim
  | _ :: _, [], h, _, _, _ => h.elim
theorem RgV.len {w : World} {B : Nat} : ∀ {vs : List ((Nat × Nat) × Value)} {l : RgL}, RgV w B vs l → vs.length = l.length
  | [], [], _ => rfl
  | p :: ps, q :: qs, h => by rw [List.length_cons, List.length_cons, RgV.len h.2]
  | [], _ :: _, h => h.elim
  | _ :: _, [], h => h.elim
section
variable {w w' : World} {B g : Nat} {v : Value} {vs : List ((Nat × Nat) × Value)} {l : RgL}
end
end Go.Proofs.YtnnjmelibmiimaaGreat

namespace Go.Proofs.YtnnjmelibmiimaaGreat
open Go.RowKit
set_option linter.unusedVariables false

section
variable {w w' : World} {F : Nat → Prop}
theorem CbB.fr {g : Nat} {T : TypeId} {cs : Array Value} (h : CbB w g T cs) (hf : Fr w w' F) (hn : ¬ F g) : CbB w' g T cs := (hf.block g h.lt hn).trans h
theorem IsB.fr {A : Option Addr} {n c : Nat} {l : List Nat} (h : IsB w A n c l) (hf : Fr w w' F) (hn : ∀ x, A = Option.some x → ¬ F x.block) : IsB w' A n c l :=
  ⟨h.1.keep hf.size fun x i e hi => World.cell?_of_block (by
    rw [add_block]
    obtain ⟨y, e', hy, _⟩ := h.1.at (by omega)
    rw [e] at e'
    injection e' with e'
    exact hf.block _ (by rw [e']; exact hy) (hn x e)), h.2⟩
theorem OwB.fr {B : Nat} {v : Value} {l : List Nat} (h : OwB w B v l) (hf : Fr w w' F) (hn : ∀ g, v.ownBlock = some g → ¬ F g) : OwB w' B v l := by
  refine ⟨⟨h.own.1, ?_⟩, h.byt⟩
  rcases h.own.2 with hx | ⟨g, cap, cur, rfl, hb, hh, rest⟩
  · exact .inl hx
  · have hg : g < w.heap.size := (Array.getElem?_eq_some_iff.1 hh).1
    exact .inr ⟨g, cap, cur, rfl, hb, (hf.block g hg (hn g rfl)).trans hh, rest⟩
theorem row_fr {B n s : Nat} {e : TypeId} {v : Value} {xs : List Value} (h : w.ownsRow B e s v n xs) (hf : Fr w w' F) (hn : ∀ g, v.ownBlock = some g → ¬ F g) : w'.ownsRow B e s v n xs := by
  refine ⟨h.1, ?_⟩
  rcases h.2 with hx | ⟨g, cap, cur, rfl, hb, hh, rest⟩
  · exact .inl hx
  · have hg : g < w.heap.size := (Array.getElem?_eq_some_iff.1 hh).1
    exact .inr ⟨g, cap, cur, rfl, hb, (hf.block g hg (hn g rfl)).trans hh, rest⟩
end
/-- a key's fresh copy -/
def CpyR (S kn : Nat) (key : List Nat) (v : Value) (W : World) : Prop := ∃ G, v = .slice (some ⟨G, 0, none⟩) kn (kn + 3) ∧ S ≤ G ∧ OwB W S v key
theorem CpyR.fr {S kn : Nat} {key : List Nat} {v : Value} {W W' : World} {F : Nat → Prop} (h : CpyR S kn key v W) (hf : Fr W W' F) (hF : ∀ k, F k → k < S) : CpyR S kn key v W' := by
  obtain ⟨G, rfl, h1, h2⟩ := h
  exact ⟨G, rfl, h1, h2.fr hf fun g hg hfg => by have := hF g hfg; have : G = g := by injection hg
                                                 omega⟩
end Go.Proofs.YtnnjmelibmiimaaGreat
namespace Go.Proofs.YtnnjmelibmiimaaGreat
open Go.RowKit
set_option linter.unusedVariables false

def u64V (n : Nat) : Value := .int .u64 (n : Int)
def u64Ok (n : Nat) : Prop := n < 18446744073709551616
theorem u64_wf {n : Nat} (h : u64Ok n) : (Lit.int .u64 (n : Int)).wf = true := by
  unfold u64Ok at h
  have e3 : IntKind.u64.min = 0 := rfl
  have e4 : IntKind.u64.max = 18446744073709551615 := rfl
  simp only [Lit.wf, Bool.and_eq_true, decide_eq_true_eq]
  omega
theorem u64_K : KeyK Tryz.prog 32 u64V u64Ok where
  keyed := Maps.int_keyed Tryz.underlying32
  of := fun h => ⟨_, Maps.keyOf_int_mk Tryz.underlying32 (u64_wf h)⟩
  inj := fun {x y} h => by
    unfold u64V at h
    injection h with _ h
    omega
theorem eq_map1 (d m : Nat) (W : World) : (Op.equalIn (d + 1) 102 (.map (some m)) (.map none)).run Tryz.prog W = .ok false W := by
  unfold Op.equalIn
  simp [run_underlying Tryz.underlying102, Result.andThen]
theorem eq_map0 (d : Nat) (W : World) : (Op.equalIn (d + 1) 102 (.map none) (.map none)).run Tryz.prog W = .ok true W := by
  unfold Op.equalIn
  simp [run_underlying Tryz.underlying102, Result.andThen]
theorem map_ne (m : Nat) (W : World) : (binOp .eql 102 (.map (some m)) (.map none)).run Tryz.prog W = .ok (.bool false) W := by
  have h := eq_map1 9999 m W
  simp only [binOp, Op.equal, Op.maxDepth, Sem.run_bind, h, Result.andThen_ok, Sem.run_pure]
theorem map_eq (W : World) : (binOp .eql 102 (.map none) (.map none)).run Tryz.prog W = .ok (.bool true) W := by
  have h := eq_map0 9999 W
  simp only [binOp, Op.equal, Op.maxDepth, Sem.run_bind, h, Result.andThen_ok, Sem.run_pure]
/-- handles: number, rights, who gave it -/
abbrev CpL := List (Nat × (Nat × Nat))
def hdV (x : Nat × Nat) : Value := .agg #[.int .u8 (x.1 : Int), .int .u64 (x.2 : Int)]
def cpV (l : CpL) : List (Nat × Value) := l.map fun p => (p.1, hdV p.2)
def getC (h : Nat) (l : CpL) : Option (Nat × Nat) := (l.find? fun p => decide (p.1 = h)).map (·.2)
theorem look_cp (h : Nat) : ∀ l : CpL, lookL h (cpV l) = (getC h l).map hdV
  | [] => rfl
  | p :: r => by
    have ih := look_cp h r
    unfold lookL getC cpV at ih ⊢
    rw [List.map_cons]
    by_cases e : p.1 = h
    · rw [List.find?_cons_of_pos (by simpa using e), List.find?_cons_of_pos (by simpa using e)]; rfl
    · rw [List.find?_cons_of_neg (by simpa using e), List.find?_cons_of_neg (by simpa using e)]; exact ih
theorem getC_none {h : Nat} {l : CpL} (hn : ∀ p ∈ l, p.1 ≠ h) : getC h l = none := by
  unfold getC
  rw [Option.map_eq_none_iff, List.find?_eq_none]
  simpa using hn
theorem zero_hd (w : World) : (zeroValue 105).run Tryz.prog w = .ok (hdV (0, 0)) w := by kernel_rfl
/-- CAPS: their struct's block, their map (if there is one), how many were made -/
structure CpB (w : World) (B c : Nat) (mo : Option Nat) (made : Nat) (l : CpL) : Prop where
  box : CbB w c 107 #[.map mo, .int .u64 (made : Int)]
  low : B ≤ w.heap.size
  map : ∀ m, mo = some m → B ≤ m ∧ MapB u64V u64Ok w m (cpV l)
  nil : mo = none → l = []
  le : ∀ p ∈ l, 1 ≤ p.1 ∧ p.1 ≤ made
section
variable {w w' : World} {B c made : Nat} {mo : Option Nat} {l : CpL}
theorem CpB.ab (h : CpB w B c mo made l) (hb : Below w.heap.size w w') : CpB w' B c mo made l :=
  ⟨h.box.ab hb, Nat.le_trans h.low hb.size, fun m hm => ⟨(h.map m hm).1, (h.map m hm).2.ab hb⟩, h.nil, h.le⟩
theorem CpB.look (h : CpB w B c mo made l) {k : Nat} (hk : u64Ok k) : (Instr.lookup 102 (.map mo) (.int .u64 (k : Int)) true).run Tryz.prog w = .ok (.tuple #[hdV ((getC k l).getD (0, 0)), .bool (getC k l).isSome]) w := by
  cases mo with
  | none =>
    rw [h.nil rfl]
    exact look_nil (x := k) u64_K Tryz.underlying102 hk (zero_hd w) true
  | some m =>
    have hm := (h.map m rfl).2
    have hl := look_cp k l
    cases hg : getC k l with
    | none => rw [hg] at hl; exact hm.look_none (x := k) u64_K Tryz.underlying102 hk hl (zero_hd w) true
    | some x => rw [hg] at hl; exact hm.look_some (x := k) u64_K Tryz.underlying102 hk hl true
theorem CpB.len (h : CpB w B c mo made l) (ty : TypeId) : (Builtin.len_ #[102] ty #[.map mo]).run Tryz.prog w = .ok (.int .i64 (l.length : Int)) w := by
  cases mo with
  | none => rw [h.nil rfl]; simp [Builtin.len_, run_underlying Tryz.underlying102, Result.andThen, goInt]
  | some m =>
    have := (h.map m rfl).2.len Tryz.underlying102 ty
    simpa [cpV] using this
theorem CpB.new (w : World) (B : Nat) (hB : B ≤ w.heap.size) : CpB (w.alloc (.cells #[.map none, .int .u64 0] 107)) B w.heap.size none 0 [] :=
  ⟨CbB.new _ _ _, Nat.le_trans hB (by simp), fun m hm => (by cases hm), fun _ => rfl, fun p hp => (by cases hp)⟩
end
theorem capsNew_any (w : World) : Calls Tryz.prog 30 #[] w fun e w' => e = .returned (.pointer (some ⟨w.heap.size, 0, none⟩)) ∧ CpB w' w.heap.size w.heap.size none 0 [] ∧ Below w.heap.size w w' := by
  go_enter Tryz.func30, Tryz.ntmps30
  go_wp2_with fail
  go_ret
  exact ⟨rfl, CpB.new w _ (Nat.le_refl _), (Below.refl _ _).alloc (Nat.le_refl _) _⟩
/-- what find tells -/
def findP (k : Nat) (l : CpL) : (Nat × Nat) × Nat := ((getC k l).getD (0, 0), if (getC k l).isSome = true then 0 else 7)
set_option maxRecDepth 100000 in
theorem find_any (B c made k : Nat) (mo : Option Nat) (l : CpL) (w : World) (h : CpB w B c mo made l) (hk : u64Ok k) :
    Calls Tryz.prog 111 #[.pointer (some ⟨c, 0, none⟩), .int .u64 (k : Int)] w fun e w' => e = .returned (.tuple #[hdV (findP k l).1, .int .i64 ((findP k l).2 : Int)]) ∧ Below w.heap.size w w' := by
  have ha : Below w.heap.size w (w.alloc (.cells #[.int .u8 0, .int .u64 0] 105)) := (Below.refl _ _).alloc (Nat.le_refl _) _
  have hlk := (h.ab ha).look hk
  have hc := (h.ab ha).box.cell (k := 0) rfl
  unfold findP
  generalize (getC k l).getD (0, 0) = x at *
  generalize (getC k l).isSome = b at *
  unfold hdV at hlk ⊢
  clear h hk ha
  cases b
  · go_enter Tryz.func111, Tryz.ntmps111
    go_wp2_with fail
    (try simp only [Exit.inBlock, Exit.then])
    refine bodyPost_ret (v := .tuple #[.agg #[.int .u8 (x.1 : Int), .int .u64 (x.2 : Int)], .int .i64 7]) ?_ rfl ?_
    · rw [results_cell_tmp rfl]
      go_simp
    exact ⟨rfl, by first | exact ((Below.refl _ _).alloc (Nat.le_refl _) _).alloc (by simp) _ | exact ((((Below.refl _ _).alloc (Nat.le_refl _) _).alloc (by simp) _).setCell (by simp) _).setCell (by simp) _⟩
  · go_enter Tryz.func111, Tryz.ntmps111
    go_wp2_with fail
    (try simp only [Exit.inBlock, Exit.then])
    refine bodyPost_ret (v := .tuple #[.agg #[.int .u8 (x.1 : Int), .int .u64 (x.2 : Int)], .int .i64 0]) ?_ rfl ?_
    · rw [results_cell_tmp rfl]
      go_simp
    exact ⟨rfl, by first | exact ((Below.refl _ _).alloc (Nat.le_refl _) _).alloc (by simp) _ | exact ((((Below.refl _ _).alloc (Nat.le_refl _) _).alloc (by simp) _).setCell (by simp) _).setCell (by simp) _⟩
/-- behind one handle more -/
def PutP (B c made : Nat) (x : Nat × Nat) (mo : Option Nat) (l : CpL) (w : World) (e : Ending) (w' : World) : Prop :=
  ∃ m', e = .returned (.tuple #[.int .u64 ((made : Int) + 1), .int .i64 0]) ∧ CpB w' B c (some m') (made + 1) (l ++ [(made + 1, x)]) ∧ Fr w w' (fun k => k = c ∨ mo = some k) ∧ (mo = some m' ∨ (mo = none ∧ w.heap.size ≤ m'))
set_option maxRecDepth 100000 in
theorem put_full (B c made : Nat) (x : Nat × Nat) (mo : Option Nat) (l : CpL) (w : World) (h : CpB w B c mo made l) (hf : 64 ≤ l.length) (hl : l.length ≤ 1000) :
    Calls Tryz.prog 109 #[.pointer (some ⟨c, 0, none⟩), hdV x] w fun e w' => e = .returned (.tuple #[.int .u64 0, .int .i64 9]) ∧ Below w.heap.size w w' := by
  have ha : Below w.heap.size w (w.alloc (.cells #[.int .u8 (x.1 : Int), .int .u64 (x.2 : Int)] 105)) := (Below.refl _ _).alloc (Nat.le_refl _) _
  have hln := (h.ab ha).len
  have hc := (h.ab ha).box.cell (k := 0) rfl
  have h64 : (64 : Int) ≤ (l.length : Int) := by omega
  have HA := Lib.hid ha
  generalize l.length = n at *
  unfold hdV
  clear h ha hf hl
  go_enter Tryz.func109, Tryz.ntmps109
  go_wp2_with fail
  go_ret2
  exact ⟨rfl, HA.out⟩
set_option maxRecDepth 100000 in
set_option maxHeartbeats 2000000 in
theorem put_some (B c made m : Nat) (x : Nat × Nat) (l : CpL) (w : World) (h : CpB w B c (some m) made l) (hf : l.length < 64) (hm : made < 9223372036854775807) :
    Calls Tryz.prog 109 #[.pointer (some ⟨c, 0, none⟩), hdV x] w (PutP B c made x (some m) l w) := by
  have ha : Below w.heap.size w (w.alloc (.cells #[.int .u8 (x.1 : Int), .int .u64 (x.2 : Int)] 105)) := (Below.refl _ _).alloc (Nat.le_refl _) _
  have hln := (h.ab ha).len
  have hc := (h.ab ha).box.cell (k := 0) rfl
  have h64 : ¬ (64 : Int) ≤ (l.length : Int) := by omega
  have hlow := h.low
  have hcl := h.box.lt
  have hw1 : IntKind.u64.wrap ((made : Int) + 1) = (((made + 1 : Nat)) : Int) := wide_u64 (made + 1) (by omega)
  have hnew : getC (made + 1) l = none := getC_none fun p hp e => by have := (h.le p hp).2; omega
  have hle : ∀ p ∈ l ++ [(made + 1, x)], 1 ≤ p.1 ∧ p.1 ≤ made + 1 := fun p hp => by
    rcases List.mem_append.1 hp with hp | hp
    · have := h.le p hp; omega
    · rw [List.mem_singleton] at hp
      subst hp
      exact ⟨by simp, by simp⟩
  have hput : putL (made + 1) (hdV x) (cpV l) = cpV (l ++ [(made + 1, x)]) := by
    unfold putL
    rw [look_cp, hnew]
    simp [cpV]
  have HP := Lib.hid hput
  have HLE := Lib.hid hle
  have HL := Lib.hid hlow
  have HC := Lib.hid hcl
  have HA := Lib.hid ha
  have MK : Hid (u64Ok (made + 1)) := Lib.hid (by unfold u64Ok; omega)
  have HM := Lib.hid (h.map m rfl)
  have hne : c ≠ m := fun e => by
    obtain ⟨es, ck, h1, _⟩ := (h.map m rfl).2
    have h2 := h.box
    unfold CbB at h2
    rw [e, h1] at h2
    cases h2
  have NE := Lib.hid hne
  have C1 := Lib.hid (h.box.ab ha)
  have c1 := C1.out.cell (k := 1) rfl
  have f1 := C1.out.free 1
  clear hne
  have G2 : Hid (Fr w ((w.alloc (.cells #[.int .u8 (x.1 : Int), .int .u64 (x.2 : Int)] 105)).setCell ⟨c, 1, none⟩ (.int .u64 (((made + 1 : Nat)) : Int))) (fun k => k = c ∨ some m = some k)) := Lib.hid ((Fr.of HA.out _).tr ((Fr.grown (grown_cell _ c 1 _)).imp fun k hk => .inl (by injection hk with hk; exact hk.symm)))
  have D2 : Hid (CbB ((w.alloc (.cells #[.int .u8 (x.1 : Int), .int .u64 (x.2 : Int)] 105)).setCell ⟨c, 1, none⟩ (.int .u64 (((made + 1 : Nat)) : Int))) c 107 #[.map (some m), .int .u64 (((made + 1 : Nat)) : Int)]) := Lib.hid (C1.out.set 1 _)
  have M2 : Hid (MapB u64V u64Ok ((w.alloc (.cells #[.int .u8 (x.1 : Int), .int .u64 (x.2 : Int)] 105)).setCell ⟨c, 1, none⟩ (.int .u64 (((made + 1 : Nat)) : Int))) m (cpV l)) := Lib.hid ((HM.out.2.ab HA.out).grown (grown_cell _ c 1 _) (fun e => NE.out (by injection e)))
  have X2 : Hid (CbB ((w.alloc (.cells #[.int .u8 (x.1 : Int), .int .u64 (x.2 : Int)] 105)).setCell ⟨c, 1, none⟩ (.int .u64 (((made + 1 : Nat)) : Int))) w.heap.size 105 #[.int .u8 (x.1 : Int), .int .u64 (x.2 : Int)]) := Lib.hid ((CbB.new w 105 #[.int .u8 (x.1 : Int), .int .u64 (x.2 : Int)]).far (by have := HC.out; omega) _)
  unfold hdV at HP ⊢
  have HN := Lib.hid hln
  clear h hm hlow hcl hnew hle hput ha
  have hmn := fun m W => map_ne m W
  have hmq := fun W => map_eq W
  go_enter Tryz.func109, Tryz.ntmps109
  go_upto_region 6 with (fail)
  clear hmn hmq hln hc c1 f1 
  obtain ⟨w2, hw2⟩ : ∃ w2, ((w.alloc (.cells #[.int .u8 (x.1 : Int), .int .u64 (x.2 : Int)] 105)).setCell ⟨c, 1, none⟩ (.int .u64 (((made + 1 : Nat)) : Int))) = w2 := ⟨_, rfl⟩
  have hcs : (((made + 1 : Nat)) : Int) = (made : Int) + 1 := by omega
  rw [hcs] at hw2 G2 D2 M2 X2
  rw [hw2] at G2 D2 M2 X2 ⊢
  have S2 : Hid (w.heap.size ≤ w2.heap.size) := Lib.hid G2.out.size
  clear hw2 C1 HN
  refine wp_wide3 [⟨28, IsR (.pointer (some ⟨c, 0, none⟩)), [], false⟩, ⟨29, IsR (.pointer (some ⟨c, 0, none⟩)), [0], false⟩, ⟨30, IsR (.pointer (some ⟨c, 0, none⟩)), [1], false⟩, ⟨31, IsR (.map (some m)), [2], false⟩, ⟨32, IsR (.pointer (some ⟨c, 0, none⟩)), [], false⟩, ⟨33, IsR (.pointer (some ⟨c, 0, none⟩)), [4], false⟩, ⟨34, IsR (.pointer (some ⟨c, 1, none⟩)), [5], false⟩, ⟨35, IsR (.int .u64 (((made + 1 : Nat)) : Int)), [6], false⟩, ⟨36, IsR (.agg #[.int .u8 (x.1 : Int), .int .u64 (x.2 : Int)]), [], false⟩] (by kernel_rfl) (by kernel_rfl) rfl rfl rfl ⟨?_, ?_, ?_, ?_, ?_, ?_, ?_, ?_, ?_, trivial⟩ ?_
  · refine ⟨rfl, IsR.mono _, fun a W hA hb hd => takes_plain rfl (yields_value _ ?_ rfl)⟩
    have h0 : a.tmps[0]?.getD undef = .pointer (some ⟨c, 0, none⟩) := (eval_get a 0).trans ((hA.eval (by simp)).trans rfl)
    go_simp
  · refine ⟨rfl, IsR.mono _, fun a W hA hb hd => takes_plain rfl (yields_value _ ?_ rfl)⟩
    have h28 : a.tmps[28]?.getD undef = .pointer (some ⟨c, 0, none⟩) := (eval_get a 28).trans (hd 0 (by simp) _ rfl)
    go_simp
  · refine ⟨rfl, IsR.mono _, fun a W hA hb hd => takes_plain rfl (yields_value _ ?_ rfl)⟩
    have h29 : a.tmps[29]?.getD undef = .pointer (some ⟨c, 0, none⟩) := (eval_get a 29).trans (hd 1 (by simp) _ rfl)
    go_simp
  · refine ⟨rfl, IsR.mono _, fun a W hA hb hd => takes_plain rfl (yields_value _ ?_ rfl)⟩
    have h30 : a.tmps[30]?.getD undef = .pointer (some ⟨c, 0, none⟩) := (eval_get a 30).trans (hd 2 (by simp) _ rfl)
    have hcc := (D2.out.ab hb).cell (k := 0) rfl
    go_simp
  · refine ⟨rfl, IsR.mono _, fun a W hA hb hd => takes_plain rfl (yields_value _ ?_ rfl)⟩
    have h0 : a.tmps[0]?.getD undef = .pointer (some ⟨c, 0, none⟩) := (eval_get a 0).trans ((hA.eval (by simp)).trans rfl)
    go_simp
  · refine ⟨rfl, IsR.mono _, fun a W hA hb hd => takes_plain rfl (yields_value _ ?_ rfl)⟩
    have h32 : a.tmps[32]?.getD undef = .pointer (some ⟨c, 0, none⟩) := (eval_get a 32).trans (hd 4 (by simp) _ rfl)
    go_simp
  · refine ⟨rfl, IsR.mono _, fun a W hA hb hd => takes_plain rfl (yields_value _ ?_ rfl)⟩
    have h33 : a.tmps[33]?.getD undef = .pointer (some ⟨c, 0, none⟩) := (eval_get a 33).trans (hd 5 (by simp) _ rfl)
    go_simp
  · refine ⟨rfl, IsR.mono _, fun a W hA hb hd => takes_plain rfl (yields_value _ ?_ rfl)⟩
    have h34 : a.tmps[34]?.getD undef = .pointer (some ⟨c, 1, none⟩) := (eval_get a 34).trans (hd 6 (by simp) _ rfl)
    have hcc := (D2.out.ab hb).cell (k := 1) rfl
    go_simp
  · refine ⟨rfl, IsR.mono _, fun a W hA hb hd => takes_plain rfl (yields_value _ ?_ rfl)⟩
    have h3 : a.tmps[3]?.getD undef = .pointer (some ⟨w.heap.size, 0, none⟩) := (eval_get a 3).trans ((hA.eval (by simp)).trans rfl)
    have hxx := X2.out.ab hb
    have x0 := hxx.cell (k := 0) rfl
    have x1 := hxx.cell (k := 1) rfl
    go_simp
  intro vs w3 hR hF hb
  have e28 : vs 28 = .pointer (some ⟨c, 0, none⟩) := hR 0 _ rfl
  have e29 : vs 29 = .pointer (some ⟨c, 0, none⟩) := hR 1 _ rfl
  have e30 : vs 30 = .pointer (some ⟨c, 0, none⟩) := hR 2 _ rfl
  have e31 : vs 31 = .map (some m) := hR 3 _ rfl
  have e32 : vs 32 = .pointer (some ⟨c, 0, none⟩) := hR 4 _ rfl
  have e33 : vs 33 = .pointer (some ⟨c, 0, none⟩) := hR 5 _ rfl
  have e34 : vs 34 = .pointer (some ⟨c, 1, none⟩) := hR 6 _ rfl
  have e35 : vs 35 = .int .u64 (((made + 1 : Nat)) : Int) := hR 7 _ rfl
  have e36 : vs 36 = .agg #[.int .u8 (x.1 : Int), .int .u64 (x.2 : Int)] := hR 8 _ rfl
  simp only [List.map_cons, List.map_nil, List.foldl_cons, List.foldl_nil, List.length_cons, List.length_nil, List.drop_succ_cons, List.drop_zero, Act.put, List.setIfInBounds_toArray, List.set_cons_zero, List.set_cons_succ, e28, e29, e30, e31, e32, e33, e34, e35, e36]
  have M3 := Lib.hid (M2.out.ab hb)
  have D3 := Lib.hid (D2.out.ab hb)
  have G3 := Lib.hid (G2.out.tr (Fr.of hb _))
  have S3 : Hid (w.heap.size ≤ w3.heap.size) := Lib.hid G3.out.size
  clear hR hF hb G2 D2 M2 X2 e28 e29 e30 e31 e32 e33 e34 e35 e36
  go_wp2_with (refine wpList_mapPut rfl (.tmp 31) (.tmp 35) (.tmp 36) rfl u64_K Tryz.underlying102 rfl M3.out (made + 1) MK.out rfl (.agg #[.int .u8 (x.1 : Int), .int .u64 (x.2 : Int)]) rfl ?_
               intro w4 m4 g4 s4 b4
               have M4 := Lib.hid m4
               have D4 := Lib.hid (D3.out.grown g4 NE.out)
               have G4 := Lib.hid (Fr.grown g4)
               have hcc := D4.out.cell (k := 1) rfl
               clear m4 g4 s4 b4)
  go_ret2
  rw [HP.out] at M4
  exact ⟨m, rfl, ⟨D4.out, Nat.le_trans HL.out (Nat.le_trans S3.out G4.out.size), fun k hk => by injection hk with hk; subst hk; exact ⟨HM.out.1, M4.out⟩, fun hk => (by cases hk), HLE.out⟩, G3.out.tr (G4.out.imp fun k hk => .inr hk), .inl rfl⟩
set_option maxRecDepth 100000 in
set_option maxHeartbeats 2000000 in
theorem put_none (B c made : Nat) (x : Nat × Nat) (l : CpL) (w : World) (h : CpB w B c (none) made l) (hf : l.length < 64) (hm : made < 9223372036854775807) :
    Calls Tryz.prog 109 #[.pointer (some ⟨c, 0, none⟩), hdV x] w (PutP B c made x (none) l w) := by
  have ha : Below w.heap.size w (w.alloc (.cells #[.int .u8 (x.1 : Int), .int .u64 (x.2 : Int)] 105)) := (Below.refl _ _).alloc (Nat.le_refl _) _
  have hln := (h.ab ha).len
  have hc := (h.ab ha).box.cell (k := 0) rfl
  have h64 : ¬ (64 : Int) ≤ (l.length : Int) := by omega
  have hlow := h.low
  have hcl := h.box.lt
  have hw1 : IntKind.u64.wrap ((made : Int) + 1) = (((made + 1 : Nat)) : Int) := wide_u64 (made + 1) (by omega)
  have hnew : getC (made + 1) l = none := getC_none fun p hp e => by have := (h.le p hp).2; omega
  have hle : ∀ p ∈ l ++ [(made + 1, x)], 1 ≤ p.1 ∧ p.1 ≤ made + 1 := fun p hp => by
    rcases List.mem_append.1 hp with hp | hp
    · have := h.le p hp; omega
    · rw [List.mem_singleton] at hp
      subst hp
      exact ⟨by simp, by simp⟩
  have hput : putL (made + 1) (hdV x) (cpV l) = cpV (l ++ [(made + 1, x)]) := by
    unfold putL
    rw [look_cp, hnew]
    simp [cpV]
  have HP := Lib.hid hput
  have HLE := Lib.hid hle
  have HL := Lib.hid hlow
  have HC := Lib.hid hcl
  have HA := Lib.hid ha
  have MK : Hid (u64Ok (made + 1)) := Lib.hid (by unfold u64Ok; omega)
  have hl0 : l = [] := h.nil rfl
  have hmm : ∀ W : World, (Instr.makeMap 102 none).run Tryz.prog W = .ok (.map (some W.heap.size)) (W.alloc (.map #[] 0)) := fun _ => rfl
  have L0 := Lib.hid hl0
  have a2 : Below w.heap.size w ((w.alloc (.cells #[.int .u8 (x.1 : Int), .int .u64 (x.2 : Int)] 105)).alloc (.map #[] 0)) := ha.alloc (by simp) _
  have A2 := Lib.hid a2
  have C2 := Lib.hid (h.box.ab a2)
  have f0 := C2.out.free 0
  have C3 := Lib.hid (C2.out.set 0 (.map (some (w.heap.size + 1))))
  have c1 := C3.out.cell (k := 1) rfl
  have f1 := C3.out.free 1
  have c0 := C2.out.cell (k := 0) rfl
  clear hl0 a2
  have G2 : Hid (Fr w ((((w.alloc (.cells #[.int .u8 (x.1 : Int), .int .u64 (x.2 : Int)] 105)).alloc (.map #[] 0)).setCell ⟨c, 0, none⟩ (.map (some (w.heap.size + 1)))).setCell ⟨c, 1, none⟩ (.int .u64 (((made + 1 : Nat)) : Int))) (fun k => k = c ∨ none = some k)) := Lib.hid (((Fr.of A2.out _).tr ((Fr.grown (grown_cell _ c 0 _)).imp fun k hk => .inl (by injection hk with hk; exact hk.symm))).tr ((Fr.grown (grown_cell _ c 1 _)).imp fun k hk => .inl (by injection hk with hk; exact hk.symm)))
  have D2 : Hid (CbB ((((w.alloc (.cells #[.int .u8 (x.1 : Int), .int .u64 (x.2 : Int)] 105)).alloc (.map #[] 0)).setCell ⟨c, 0, none⟩ (.map (some (w.heap.size + 1)))).setCell ⟨c, 1, none⟩ (.int .u64 (((made + 1 : Nat)) : Int))) c 107 #[.map (some (w.heap.size + 1)), .int .u64 (((made + 1 : Nat)) : Int)]) := Lib.hid (C3.out.set 1 _)
  have M2 : Hid (MapB u64V u64Ok ((((w.alloc (.cells #[.int .u8 (x.1 : Int), .int .u64 (x.2 : Int)] 105)).alloc (.map #[] 0)).setCell ⟨c, 0, none⟩ (.map (some (w.heap.size + 1)))).setCell ⟨c, 1, none⟩ (.int .u64 (((made + 1 : Nat)) : Int))) (w.heap.size + 1) (cpV l)) := Lib.hid (by
    rw [L0.out]
    have h0 := MapB.new u64V u64Ok (w.alloc (.cells #[.int .u8 (x.1 : Int), .int .u64 (x.2 : Int)] 105))
    rw [show (w.alloc (.cells #[.int .u8 (x.1 : Int), .int .u64 (x.2 : Int)] 105)).heap.size = w.heap.size + 1 by simp] at h0
    exact (h0.grown (grown_cell _ c 0 _) (by have := HC.out; simp; omega)).grown (grown_cell _ c 1 _) (by have := HC.out; simp; omega))
  have X2 : Hid (CbB ((((w.alloc (.cells #[.int .u8 (x.1 : Int), .int .u64 (x.2 : Int)] 105)).alloc (.map #[] 0)).setCell ⟨c, 0, none⟩ (.map (some (w.heap.size + 1)))).setCell ⟨c, 1, none⟩ (.int .u64 (((made + 1 : Nat)) : Int))) w.heap.size 105 #[.int .u8 (x.1 : Int), .int .u64 (x.2 : Int)]) := Lib.hid ((((CbB.new w 105 #[.int .u8 (x.1 : Int), .int .u64 (x.2 : Int)]).ab ((Below.refl _ _).alloc (Nat.le_refl _) _)).far (by have := HC.out; omega) _).far (by have := HC.out; omega) _)
  have NE : Hid (c ≠ w.heap.size + 1) := Lib.hid (by have := HC.out; omega)
  unfold hdV at HP ⊢
  have HN := Lib.hid hln
  clear h hm hlow hcl hnew hle hput ha
  have hmn := fun m W => map_ne m W
  have hmq := fun W => map_eq W
  go_enter Tryz.func109, Tryz.ntmps109
  go_upto_region 6 with (fail)
  clear hmn hmq hln hc c1 f1 f0 c0 hmm
  obtain ⟨w2, hw2⟩ : ∃ w2, ((((w.alloc (.cells #[.int .u8 (x.1 : Int), .int .u64 (x.2 : Int)] 105)).alloc (.map #[] 0)).setCell ⟨c, 0, none⟩ (.map (some (w.heap.size + 1)))).setCell ⟨c, 1, none⟩ (.int .u64 (((made + 1 : Nat)) : Int))) = w2 := ⟨_, rfl⟩
  have hcs : (((made + 1 : Nat)) : Int) = (made : Int) + 1 := by omega
  rw [hcs] at hw2 G2 D2 M2 X2
  rw [hw2] at G2 D2 M2 X2 ⊢
  have S2 : Hid (w.heap.size ≤ w2.heap.size) := Lib.hid G2.out.size
  clear hw2 C2 C3 A2 HN
  refine wp_wide3 [⟨28, IsR (.pointer (some ⟨c, 0, none⟩)), [], false⟩, ⟨29, IsR (.pointer (some ⟨c, 0, none⟩)), [0], false⟩, ⟨30, IsR (.pointer (some ⟨c, 0, none⟩)), [1], false⟩, ⟨31, IsR (.map (some (w.heap.size + 1))), [2], false⟩, ⟨32, IsR (.pointer (some ⟨c, 0, none⟩)), [], false⟩, ⟨33, IsR (.pointer (some ⟨c, 0, none⟩)), [4], false⟩, ⟨34, IsR (.pointer (some ⟨c, 1, none⟩)), [5], false⟩, ⟨35, IsR (.int .u64 (((made + 1 : Nat)) : Int)), [6], false⟩, ⟨36, IsR (.agg #[.int .u8 (x.1 : Int), .int .u64 (x.2 : Int)]), [], false⟩] (by kernel_rfl) (by kernel_rfl) rfl rfl rfl ⟨?_, ?_, ?_, ?_, ?_, ?_, ?_, ?_, ?_, trivial⟩ ?_
  · refine ⟨rfl, IsR.mono _, fun a W hA hb hd => takes_plain rfl (yields_value _ ?_ rfl)⟩
    have h0 : a.tmps[0]?.getD undef = .pointer (some ⟨c, 0, none⟩) := (eval_get a 0).trans ((hA.eval (by simp)).trans rfl)
    go_simp
  · refine ⟨rfl, IsR.mono _, fun a W hA hb hd => takes_plain rfl (yields_value _ ?_ rfl)⟩
    have h28 : a.tmps[28]?.getD undef = .pointer (some ⟨c, 0, none⟩) := (eval_get a 28).trans (hd 0 (by simp) _ rfl)
    go_simp
  · refine ⟨rfl, IsR.mono _, fun a W hA hb hd => takes_plain rfl (yields_value _ ?_ rfl)⟩
    have h29 : a.tmps[29]?.getD undef = .pointer (some ⟨c, 0, none⟩) := (eval_get a 29).trans (hd 1 (by simp) _ rfl)
    go_simp
  · refine ⟨rfl, IsR.mono _, fun a W hA hb hd => takes_plain rfl (yields_value _ ?_ rfl)⟩
    have h30 : a.tmps[30]?.getD undef = .pointer (some ⟨c, 0, none⟩) := (eval_get a 30).trans (hd 2 (by simp) _ rfl)
    have hcc := (D2.out.ab hb).cell (k := 0) rfl
    go_simp
  · refine ⟨rfl, IsR.mono _, fun a W hA hb hd => takes_plain rfl (yields_value _ ?_ rfl)⟩
    have h0 : a.tmps[0]?.getD undef = .pointer (some ⟨c, 0, none⟩) := (eval_get a 0).trans ((hA.eval (by simp)).trans rfl)
    go_simp
  · refine ⟨rfl, IsR.mono _, fun a W hA hb hd => takes_plain rfl (yields_value _ ?_ rfl)⟩
    have h32 : a.tmps[32]?.getD undef = .pointer (some ⟨c, 0, none⟩) := (eval_get a 32).trans (hd 4 (by simp) _ rfl)
    go_simp
  · refine ⟨rfl, IsR.mono _, fun a W hA hb hd => takes_plain rfl (yields_value _ ?_ rfl)⟩
    have h33 : a.tmps[33]?.getD undef = .pointer (some ⟨c, 0, none⟩) := (eval_get a 33).trans (hd 5 (by simp) _ rfl)
    go_simp
  · refine ⟨rfl, IsR.mono _, fun a W hA hb hd => takes_plain rfl (yields_value _ ?_ rfl)⟩
    have h34 : a.tmps[34]?.getD undef = .pointer (some ⟨c, 1, none⟩) := (eval_get a 34).trans (hd 6 (by simp) _ rfl)
    have hcc := (D2.out.ab hb).cell (k := 1) rfl
    go_simp
  · refine ⟨rfl, IsR.mono _, fun a W hA hb hd => takes_plain rfl (yields_value _ ?_ rfl)⟩
    have h3 : a.tmps[3]?.getD undef = .pointer (some ⟨w.heap.size, 0, none⟩) := (eval_get a 3).trans ((hA.eval (by simp)).trans rfl)
    have hxx := X2.out.ab hb
    have x0 := hxx.cell (k := 0) rfl
    have x1 := hxx.cell (k := 1) rfl
    go_simp
  intro vs w3 hR hF hb
  have e28 : vs 28 = .pointer (some ⟨c, 0, none⟩) := hR 0 _ rfl
  have e29 : vs 29 = .pointer (some ⟨c, 0, none⟩) := hR 1 _ rfl
  have e30 : vs 30 = .pointer (some ⟨c, 0, none⟩) := hR 2 _ rfl
  have e31 : vs 31 = .map (some (w.heap.size + 1)) := hR 3 _ rfl
  have e32 : vs 32 = .pointer (some ⟨c, 0, none⟩) := hR 4 _ rfl
  have e33 : vs 33 = .pointer (some ⟨c, 0, none⟩) := hR 5 _ rfl
  have e34 : vs 34 = .pointer (some ⟨c, 1, none⟩) := hR 6 _ rfl
  have e35 : vs 35 = .int .u64 (((made + 1 : Nat)) : Int) := hR 7 _ rfl
  have e36 : vs 36 = .agg #[.int .u8 (x.1 : Int), .int .u64 (x.2 : Int)] := hR 8 _ rfl
  simp only [List.map_cons, List.map_nil, List.foldl_cons, List.foldl_nil, List.length_cons, List.length_nil, List.drop_succ_cons, List.drop_zero, Act.put, List.setIfInBounds_toArray, List.set_cons_zero, List.set_cons_succ, e28, e29, e30, e31, e32, e33, e34, e35, e36]
  have M3 := Lib.hid (M2.out.ab hb)
  have D3 := Lib.hid (D2.out.ab hb)
  have G3 := Lib.hid (G2.out.tr (Fr.of hb _))
  have S3 : Hid (w.heap.size ≤ w3.heap.size) := Lib.hid G3.out.size
  clear hR hF hb G2 D2 M2 X2 e28 e29 e30 e31 e32 e33 e34 e35 e36
  go_wp2_with (refine wpList_mapPut rfl (.tmp 31) (.tmp 35) (.tmp 36) rfl u64_K Tryz.underlying102 rfl M3.out (made + 1) MK.out rfl (.agg #[.int .u8 (x.1 : Int), .int .u64 (x.2 : Int)]) rfl ?_
               intro w4 m4 g4 s4 b4
               have M4 := Lib.hid m4
               have D4 := Lib.hid (D3.out.grown g4 NE.out)
               have G4 := Lib.hid (Fr.grown g4)
               have hcc := D4.out.cell (k := 1) rfl
               clear m4 g4 s4 b4)
  go_ret2
  rw [HP.out] at M4
  refine ⟨w.heap.size + 1, rfl, ⟨D4.out, Nat.le_trans HL.out (Nat.le_trans S3.out G4.out.size), fun k hk => by injection hk with hk; subst hk; exact ⟨by have := HL.out; omega, M4.out⟩, fun hk => (by cases hk), HLE.out⟩, ?_, .inr ⟨rfl, Nat.le_succ _⟩⟩
  refine ⟨G4.out.os.trans G3.out.os, G4.out.tape.trans G3.out.tape, G4.out.output.trans G3.out.output, Nat.le_trans S3.out G4.out.size, fun k hk hn => ?_⟩
  have hlt : k < w3.heap.size := Nat.lt_of_lt_of_le hk S3.out
  rw [G4.out.block k hlt (fun e => by injection e with e; omega)]
  exact G3.out.block k hk hn
end Go.Proofs.YtnnjmelibmiimaaGreat
