/-
  RINGS: the map of keys of a pair of numbers, and what of it is known.
  RINGS: walks of NewRing, Add, Key.
  RINGS: the walk of Add.
-/
import Derived.Test.YtobjdhpdljiijaaMpA
import Derived.Test.YtobjdhpdljiijaaCtC
import Derived.Test.YtobjdhpdljiijaaSeB
namespace Go.Proofs.Ytobjdhpdljiijaa
open Go.RowKit
set_option linter.unusedVariables false

def whV (p : Nat × Nat) : Value := .agg #[.int .u32 (p.1 : Int), .int .u16 (p.2 : Int)]
def whOk (p : Nat × Nat) : Prop := p.1 < 4294967296 ∧ p.2 < 65536
theorem wh_wf {p : Nat × Nat} (h : whOk p) : (Lit.int .u32 (p.1 : Int)).wf = true ∧ (Lit.int .u16 (p.2 : Int)).wf = true := by
  obtain ⟨h1, h2⟩ := h
  have e1 : IntKind.u32.min = 0 := rfl
  have e2 : IntKind.u32.max = 4294967295 := rfl
  have e3 : IntKind.u16.min = 0 := rfl
  have e4 : IntKind.u16.max = 65535 := rfl
  simp only [Lit.wf, Bool.and_eq_true, decide_eq_true_eq]
  omega
end Go.Proofs.Ytobjdhpdljiijaa

namespace Go.Proofs.Ytobjdhpdljiijaa
open Go.RowKit
set_option linter.unusedVariables false

/-- a ring's keys, in the order in which they came -/
abbrev RgL := List ((Nat × Nat) × List Nat)
def getR (x : Nat × Nat) (l : RgL) : Option (List Nat) := (l.find? fun p => decide (p.1 = x)).map (·.2)
/-- values that are bytes of the call's own -/
def RgV (w : World) (B : Nat) : List ((Nat × Nat) × Value) → RgL → Prop
  | [], [] => True
  | p :: ps, q :: qs => (p.1 = q.1 ∧ OwB w B p.2 q.2) ∧ RgV w B ps qs
  | _, _ => False
theorem RgV.imp {w w' : World} {B : Nat} : ∀ {vs : List ((Nat × Nat) × Value)} {l : RgL}, RgV w B vs l → (∀ v k, OwB w B v k → OwB w' B v k) → RgV w' B vs l
  | [], [], _, _ => trivial
  | p :: ps, q :: qs, h, hi => ⟨⟨h.1.1, hi _ _ h.1.2⟩, RgV.imp h.2 hi⟩
  | [], _ :: _, h, _ => h.elim
  | _ :: _, [], h, _ => h.elim
theorem RgV.look {w : World} {B : Nat} (x : Nat × Nat) : ∀ {vs : List ((Nat × Nat) × Value)} {l : RgL}, RgV w B vs l →
    (lookL x vs = none ∧ getR x l = none) ∨ ∃ v k, lookL x vs = some v ∧ getR x l = some k ∧ OwB w B v k
  | [], [], _ => .inl ⟨rfl, rfl⟩
  | p :: ps, q :: qs, h => by
    have ih := RgV.look x h.2
    obtain ⟨⟨h1, h2⟩, h3⟩ := h
    unfold lookL getR at ih ⊢
    by_cases hx : p.1 = x
    · rw [List.find?_cons_of_pos (by simpa using hx), List.find?_cons_of_pos (by rw [← h1]; simpa using hx)]
      exact .inr ⟨_, _, rfl, rfl, h2⟩
    · rw [List.find?_cons_of_neg (by simpa using hx), List.find?_cons_of_neg (by rw [← h1]; simpa using hx)]
      exact ih
  | [], _ :: _, h => h.elim
  | _ :: _, [], h => h.elim
theorem RgV.snoc {w : World} {B : Nat} {x : Nat × Nat} {v : Value} {k : List Nat} (hv : OwB w B v k) : ∀ {vs : List ((Nat × Nat) × Value)} {l : RgL}, RgV w B vs l → RgV w B (vs ++ [(x, v)]) (l ++ [(x, k)])
  | [], [], _ => ⟨⟨rfl, hv⟩, trivial⟩
  | p :: ps, q :: qs, h => ⟨h.1, RgV.snoc hv h.2⟩
  | [], _ :: _, h => h.elim
  | _ :: _, [], h => h.elim
theorem RgV.drop {w : World} {B : Nat} (x : Nat × Nat) : ∀ {vs : List ((Nat × Nat) × Value)} {l : RgL}, RgV w B vs l → RgV w B (dropL x vs) (l.filter fun p => !decide (p.1 = x))
  | [], [], _ => trivial
  | p :: ps, q :: qs, h => by
    have ih := RgV.drop x h.2
    obtain ⟨⟨h1, h2⟩, h3⟩ := h
    unfold dropL at ih ⊢
    by_cases hx : p.1 = x
    · rw [List.filter_cons_of_neg (by simpa using hx), List.filter_cons_of_neg (by rw [← h1]; simpa using hx)]
      exact ih
    · rw [List.filter_cons_of_pos (by simpa using hx), List.filter_cons_of_pos (by rw [← h1]; simpa using hx)]
      exact ⟨⟨h1, h2⟩, ih⟩
  | [], _ :: _, h => h.elim
  | _ :: _, [], h => h.elim
theorem getR_mem {x : Nat × Nat} {l : RgL} {k : List Nat} (h : getR x l = some k) : (x, k) ∈ l := by
  unfold getR at h
  obtain ⟨p, hp, rfl⟩ := Option.map_eq_some_iff.1 h
  have h1 := List.mem_of_find?_eq_some hp
  have h2 := List.find?_some hp
  simp only [decide_eq_true_eq] at h2
  subst h2
  exact h1
section
variable {w w' : World} {B g m : Nat} {l : RgL}
theorem RgV.ab {vs : List ((Nat × Nat) × Value)} (h : RgV w B vs l) (hb : Below w.heap.size w w') : RgV w' B vs l := h.imp fun _ _ ho => ho.ab hb
end
/-- what a ring hands out -/
def keyP (x : Nat × Nat) (l : RgL) : List Nat × Nat := match getR x l with | some k => (k, 0) | none => ([], 7)
theorem empty_own (w : World) : OwB (w.alloc (.cells #[] 5)) w.heap.size (.slice (some ⟨w.heap.size, 0, none⟩) 0 0) [] :=
  OwB.ofBk (l' := []) (show Bk (w.alloc (.cells (bts []) 5)) w.heap.size 5 [] from Bk.newAt _ [] rfl) (Nat.le_refl _) rfl (Nat.le_refl _) rfl (by decide) rfl (fun x hx => by cases hx)
end Go.Proofs.Ytobjdhpdljiijaa

namespace Go.Proofs.Ytobjdhpdljiijaa
open Go.RowKit
set_option linter.unusedVariables false

/-- a slice without room -/
def EmR (v : Value) (_ : World) : Prop := ∃ X : Addr, v = .slice (some X) 0 0
theorem EmR.mono : Mono EmR := fun _ _ _ h _ => h
theorem isB_empty (w : World) (X : Addr) : IsB w (some X) 0 0 [] := ⟨⟨rfl, Nat.le_refl _, Nat.zero_le _, by simp, .inr ⟨X, rfl, fun h => absurd h (Nat.lt_irrefl 0), fun i hi => absurd hi (Nat.not_lt_zero i)⟩⟩, fun x hx => by cases hx⟩
theorem cell_isB0 {w : World} {b : Addr} {n c : Nat} {l : List Nat} (h : IsB w (some b) n c l) : ∀ j u, (bvals l)[j]? = some u → w.cell? (b.add j) = some u := fun j u hj => by
  have l1 := h.len
  have hj' : j < n := by
    rcases Nat.lt_or_ge j n with h | h
    · exact h
    · rw [List.getElem?_eq_none (by simp [bvals]; omega)] at hj; cases hj
  obtain ⟨y, e, _, hy⟩ := h.cell (by omega)
  injection e with e
  subst e
  rw [hy j hj', ← hj]
  simp [bvals, at', List.getElem?_eq_getElem (show j < l.length by omega)]
/-- what comes of one more key -/
def addP (x : Nat × Nat) (k : List Nat) (l : RgL) : Nat × RgL := if k.length = 16 ∨ k.length = 32 then (if (getR x l).isSome then (8, l) else (0, l ++ [(x, k)])) else (2, l)
theorem OwB.grown {w w' : World} {B : Nat} {v : Value} {l : List Nat} {r : Nat} (h : OwB w B v l) (hg : w.grownBy w' (some r)) (hne : v.ownBlock ≠ some r) : OwB w' B v l := h.kept hg (.inr hne)
/-- a block that is a map holds no bytes -/
theorem OwB.notMap {w : World} {B m : Nat} {v : Value} {l : List Nat} {es : Array MapEntry} {c : Nat} (h : OwB w B v l) (hm : w.heap[m]? = some (.map es c)) : v.ownBlock ≠ some m := by
  intro e
  rcases h.own.2 with ⟨rfl, _⟩ | ⟨g, cap, cur, rfl, _, hh, _⟩
  · cases e
  · have : g = m := by injection e
    subst this
    rw [hm] at hh
    cases hh
theorem notMap {w : World} {kv : Nat × Nat → Value} {ok : Nat × Nat → Prop} {B m : Nat} {v : Value} {l : List Nat} {vs : List ((Nat × Nat) × Value)} (h : OwB w B v l) (hm : MapB kv ok w m vs) : v.ownBlock ≠ some m := by
  obtain ⟨es, c, h1, _⟩ := hm
  exact h.notMap h1
end Go.Proofs.Ytobjdhpdljiijaa
