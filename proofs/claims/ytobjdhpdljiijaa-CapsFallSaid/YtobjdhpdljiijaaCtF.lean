/-
  WALKS: ctr.Next.
  WALKS: ctr.stream and the closure that it hands back.
  WALKS: ctr.Crypt.
-/
import Derived.Test.YtobjdhpdljiijaaCtC
import Derived.Test.YtobjdhpdljiijaaLaC
import Derived.Test.YtobjdhpdljiijaaGcP
namespace Go.Proofs.Ytobjdhpdljiijaa
open Go.RowKit
set_option linter.unusedVariables false

theorem nextC_splice (c : List Nat) (lc : c.length = 16) (q : Nat) (hq : q = (numB (c.drop 12) + 1) % 4294967296) : c.take 12 ++ (digB q 4 ++ c.drop (12 + 4)) = nextC c := by
  unfold nextC
  rw [List.drop_of_length_le (l := c) (by omega), List.append_nil, hq]
end Go.Proofs.Ytobjdhpdljiijaa

namespace Go.Proofs.Ytobjdhpdljiijaa
open Go.RowKit
set_option linter.unusedVariables false

/-- a store of bytes, the new world under a name of its own -/
theorem wpList_storeN {P : Program} {ops : Array Oper} {rest : List Oper} {o : Oper} {a : Act} {w : World} {Q : Exit → Act → World → Prop} (hgd : o.guard = none) (ty : TypeId) (x y : Operand) (ho : o.op = .store ty x y)
    (g : Nat) (hx : a.eval x = .pointer (some ⟨g, 0, none⟩)) (l' : List Nat) (hy : a.eval y = .agg (bts l')) {t : TypeId} {l : List Nat} (hg : Bk w g t l)
    (hi : (P.info? ty).map (·.size) = some l'.length) (hl : l.length = l'.length)
    (h : ∀ w2, w2 = w.setRow g (bts l') → wpList P ops Q rest (a.put o.dst undef) w2) : wpList P ops Q (o :: rest) a w :=
  wpList_storeB hgd ty x y ho g hx l' hy hg hi hl (h _ rfl)
/-- outside the blocks lo .. hi what was there is as it was -/
structure Outside (lo hi : Nat) (w w' : World) : Prop where
  os : w'.os = w.os
  tape : w'.tape = w.tape
  output : w'.output = w.output
  size : w.heap.size ≤ w'.heap.size
  block : ∀ k, k < w.heap.size → k < lo ∨ hi < k → w'.heap[k]? = w.heap[k]?
theorem Outside.below {lo hi B : Nat} {w0 w w' : World} (h : Outside lo hi w w') (hb : Below B w0 w) (hB : B ≤ lo) (hs : B ≤ w.heap.size) : Below B w0 w' :=
  hb.trans ⟨h.os, h.tape, h.output, h.size, fun k hk => h.block k (by omega) (.inl (by omega))⟩
theorem Outside.bk {lo hi b : Nat} {w w' : World} {t : TypeId} {l : List Nat} (h : Outside lo hi w w') (hk : Bk w b t l) (hb : b < lo ∨ hi < b) : Bk w' b t l := (h.block b hk.lt hb).trans hk
theorem Outside.isB {lo hi : Nat} {w w' : World} {A : Option Addr} {n c : Nat} {l : List Nat} (h : Outside lo hi w w') (hk : IsB w A n c l) (hb : ∀ x, A = some x → x.block < lo ∨ hi < x.block) : IsB w' A n c l :=
  ⟨hk.1.keep h.size fun x i e hi => World.cell?_of_block (by
    obtain ⟨y, e', hy, _⟩ := hk.1.at (by omega)
    rw [e] at e'
    injection e' with e'
    exact h.block _ (by rw [add_block, e']; exact hy) (by rw [add_block]; exact hb x e)), hk.2⟩

section
variable {w w' : World} {lo hi B b g k : Nat} {key at_ blk : List Nat}
theorem Outside.refl (lo hi : Nat) (w : World) : Outside lo hi w w := ⟨rfl, rfl, rfl, Nat.le_refl _, fun _ _ _ => rfl⟩
theorem Outside.call {w0 : World} (h : Outside lo hi w0 w) (hb : Below w.heap.size w w') : Outside lo hi w0 w' :=
  ⟨hb.os.trans h.os, hb.tape.trans h.tape, hb.output.trans h.output, Nat.le_trans h.size hb.size, fun j hj hx => (hb.block j (Nat.lt_of_lt_of_le hj h.size)).trans (h.block j hj hx)⟩
theorem Outside.row {w0 : World} (h : Outside lo hi w0 w) {c : Nat} (h1 : lo ≤ c) (h2 : c ≤ hi) (cs : Array Value) : Outside lo hi w0 (w.setRow c cs) :=
  ⟨h.os, h.tape, h.output, by simpa using h.size, fun j hj hx => (setRow_other w c j cs (by omega)).trans (h.block j hj hx)⟩
theorem Outside.setCell {w0 : World} (h : Outside lo hi w0 w) {c j : Nat} (h1 : lo ≤ c) (h2 : c ≤ hi) (u : Value) : Outside lo hi w0 (w.setCell ⟨c, j, none⟩ u) :=
  ⟨h.os, h.tape, h.output, by simpa [World.setCell] using h.size, fun i hi hx => (Below.heap_setCell w ⟨c, j, none⟩ u i (by show i ≠ c; omega)).trans (h.block i hi hx)⟩
end

/-! the stream behind i bytes -/
def atS (first : List Nat) (i : Nat) : List Nat := nextN first ((i + 15) / 16)
def blkS (key first : List Nat) (i : Nat) : List Nat := if i = 0 then z16 else encA key (atS first i)
def kS (i : Nat) : Nat := if i = 0 then 16 else (i - 1) % 16 + 1
theorem kS_new {i : Nat} (h : i % 16 = 0) : kS i = 16 := by unfold kS; split <;> omega
theorem kS_more {i : Nat} (h : i % 16 ≠ 0) : kS i = i % 16 := by unfold kS; split <;> omega
theorem kS_next (i : Nat) : kS (i + 1) = i % 16 + 1 := by unfold kS; rw [if_neg (by omega)]; rfl
theorem atS_new {first : List Nat} {i : Nat} (h : i % 16 = 0) : atS first (i + 1) = nextC (atS first i) := by
  unfold atS
  rw [show (i + 1 + 15) / 16 = (i + 15) / 16 + 1 by omega]
  rfl
theorem atS_more {first : List Nat} {i : Nat} (h : i % 16 ≠ 0) : atS first (i + 1) = atS first i := by
  unfold atS
  rw [show (i + 1 + 15) / 16 = (i + 15) / 16 by omega]
theorem atS_next (first : List Nat) (i : Nat) : atS first (i + 1) = nextN first (i / 16 + 1) := by
  unfold atS
  rw [show (i + 1 + 15) / 16 = i / 16 + 1 by omega]
theorem blkS_next (key first : List Nat) (i : Nat) : blkS key first (i + 1) = encA key (atS first (i + 1)) := if_neg (by omega)
theorem blkS_len (key first : List Nat) (i : Nat) : (blkS key first i).length = 16 := by unfold blkS; split; rfl; exact encA_len _ _
theorem ksB_eq (key first : List Nat) (i : Nat) : ksB key first i = at' (blkS key first (i + 1)) (i % 16) := by rw [blkS_next, atS_next]; rfl
end Go.Proofs.Ytobjdhpdljiijaa

namespace Go.Proofs.Ytobjdhpdljiijaa
open Go.RowKit
set_option linter.unusedVariables false

/-- bytes of the call's own and an error's number are handed back; nothing that was there has turned -/
def OutB (w : World) (l : List Nat) (err : Nat) (e : Ending) (w' : World) : Prop :=
  ∃ v, e = .returned (.tuple #[v, .int .i64 (err : Int)]) ∧ OwB w' w.heap.size v l ∧ Below w.heap.size w w'
theorem OutB.refused {w w' : World} (err : Nat) (hb : Below w.heap.size w w') : OutB w [] err (.returned (.tuple #[.slice none 0 0, .int .i64 (err : Int)])) w' := ⟨_, rfl, OwB.nil _ _, hb⟩
theorem below_tr {B : Nat} {w0 w w' : World} (h : Below B w0 w) (hb : Below w.heap.size w w') (hB : B ≤ w.heap.size) : Below B w0 w' := h.trans (hb.mono hB)

end Go.Proofs.Ytobjdhpdljiijaa
