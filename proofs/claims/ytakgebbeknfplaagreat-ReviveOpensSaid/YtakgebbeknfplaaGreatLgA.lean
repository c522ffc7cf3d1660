/-
  LOGS: NewLog, and Seal through a log that is empty yet: walks.
-/
import Derived.Test.YtakgebbeknfplaaGreatRgC
import Derived.Test.YtakgebbeknfplaaGreatMtA
namespace Go.Proofs.YtakgebbeknfplaaGreat
open Go.RowKit
set_option linter.unusedVariables false

/-- something that was sealed -/
structure Sl where
  l : Lb
  key : List Nat
  pay : List Nat
  blk : List Nat
def slv (s : Sl) : List Value := (lab s.l).toList ++ [.string (strOf s.key), .string (strOf s.pay), .string (strOf s.blk)]
def slvs : List Sl → List Value
  | [] => []
  | s :: r => slv s ++ slvs r
/-- A LOG: its struct's block, and what was sealed through it -/
structure LgB (w : World) (B g : Nat) (all : List Sl) : Prop where
  low : B ≤ w.heap.size
  box : ∃ v, CbB w g 215 #[v] ∧ w.ownsRow B 294 9 v all.length (slvs all)
theorem LgB.ab {w w' : World} {B g : Nat} {all : List Sl} (h : LgB w B g all) (hb : Below w.heap.size w w') : LgB w' B g all := by
  obtain ⟨v, h1, h2⟩ := h.box
  exact ⟨Nat.le_trans h.low hb.size, v, h1.ab hb, h2.kept (row := none) ⟨hb.os, hb.tape, hb.output, hb.size, fun i hi _ => hb.block i hi⟩ (by cases hv : v.ownBlock <;> simp)⟩
theorem LgB.lt {w : World} {B g : Nat} {all : List Sl} (h : LgB w B g all) : g < w.heap.size := by
  obtain ⟨v, h1, _⟩ := h.box
  exact h1.lt
theorem grown_of {w w' : World} (hb : Below w.heap.size w w') (row : Option Nat) : w.grownBy w' row := ⟨hb.os, hb.tape, hb.output, hb.size, fun i hi _ => hb.block i hi⟩
theorem grown_cell (w : World) (g k : Nat) (v : Value) : w.grownBy (w.setCell ⟨g, k, none⟩ v) (some g) := ⟨rfl, rfl, rfl, by simp, fun i hi hn => Below.heap_setCell w ⟨g, k, none⟩ v i (fun e => hn (by rw [e]))⟩
theorem below_grown {B : Nat} {a b c : World} {r : Nat} (h : Below B a b) (k : b.grownBy c (some r)) (hr : B ≤ r) (hs : B ≤ b.heap.size) : Below B a c := h.trans ⟨k.os, k.tape, k.output, k.size, fun i hi => k.block i (by omega) (by simp; omega)⟩
theorem LgB.empty {w : World} {B g : Nat} (h : CbB w g 215 #[.slice none 0 0]) (hB : B ≤ w.heap.size) : LgB w B g [] := ⟨hB, _, h, World.ownsRow_nil _ _ _ _⟩
/-- a fresh row of one -/
def OneR (cs : Array Value) (v : Value) (W : World) : Prop := ∃ G, v = .slice (some ⟨G, 0, none⟩) 1 1 ∧ CbB W G 294 cs
theorem OneR.mono (cs : Array Value) : Mono (OneR cs) := fun v W W' ⟨G, h1, h2⟩ hb => ⟨G, h1, h2.ab hb⟩
def RowR (B n : Nat) (xs : List Value) (v : Value) (W : World) : Prop := W.ownsRow B 294 9 v n xs
theorem RowR.mono (B n : Nat) (xs : List Value) : Mono (RowR B n xs) := fun v W W' h hb => h.kept (row := none) (grown_of hb none) (by cases hv : v.ownBlock <;> simp)
theorem row_at {W : World} {G : Nat} {T : TypeId} {cs : List Value} (h : CbB W G T cs.toArray) : ∀ (j : Nat) u, cs[j]? = some u → W.cell? ((⟨G, 0, none⟩ : Addr).add j) = some u := fun j u hj => by
  rw [Addr.add_mid, Nat.zero_add]
  exact h.cell (by simpa using hj)
theorem own_ge9 {w : World} {B n s : Nat} {e : TypeId} {v : Value} {xs : List Value} (h : w.ownsRow B e s v n xs) : ∀ g, v.ownBlock = some g → B ≤ g := by
  rcases h.2 with ⟨rfl, _⟩ | ⟨g, cap, cur, rfl, hg, _⟩
  · intro g hg; cases hg
  · intro g' hg'
    have : g = g' := by injection hg'
    omega
theorem row_shape {w : World} {B n s : Nat} {e : TypeId} {v : Value} {xs : List Value} (h : w.ownsRow B e s v n xs) : ∃ A c, v = .slice A n c := by
  rcases h.2 with ⟨rfl, h0⟩ | ⟨g, cap, cur, rfl, _⟩
  · subst h0
    exact ⟨_, _, rfl⟩
  · exact ⟨_, _, rfl⟩
theorem row_low {w : World} {B B' n s : Nat} {e : TypeId} {v : Value} {xs : List Value} (h : w.ownsRow B e s v n xs) (hB : B' ≤ B) : w.ownsRow B' e s v n xs := by
  refine ⟨h.1, ?_⟩
  rcases h.2 with hn | ⟨g, cap, cur, e1, hb', rest⟩
  · exact .inl hn
  · exact .inr ⟨g, cap, cur, e1, by omega, rest⟩
theorem LgB.lower {w : World} {B B' g : Nat} {all : List Sl} (h : LgB w B g all) (hB : B' ≤ B) : LgB w B' g all := by
  obtain ⟨v, h1, h2⟩ := h.box
  exact ⟨Nat.le_trans hB h.low, v, h1, row_low h2 hB⟩
end Go.Proofs.YtakgebbeknfplaaGreat
