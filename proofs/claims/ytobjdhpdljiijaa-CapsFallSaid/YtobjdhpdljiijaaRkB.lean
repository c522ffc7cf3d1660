/-
  THE REFERENCE's RINGS: what one is in memory; the walk of At.
  THE REFERENCE's RINGS: the walk of Add.
-/
import Derived.Test.YtobjdhpdljiijaaLgA
import Derived.Test.YtobjdhpdljiijaaWid6
namespace Go.Proofs.Ytobjdhpdljiijaa
open Go.RowKit
set_option linter.unusedVariables false

def keyCs : List ((Nat × Nat) × Value) → List Value
  | [] => []
  | p :: r => [.int .u32 (p.1.1 : Int), .int .u16 (p.1.2 : Int), p.2] ++ keyCs r
theorem keyCs_snoc (vs : List ((Nat × Nat) × Value)) (p : (Nat × Nat) × Value) : keyCs (vs ++ [p]) = keyCs vs ++ [.int .u32 (p.1.1 : Int), .int .u16 (p.1.2 : Int), p.2] := by
  induction vs with
  | nil => rfl
  | cons q r ih => rw [List.cons_append, keyCs, ih, keyCs, List.append_assoc]
theorem keyCs_at : ∀ (vs : List ((Nat × Nat) × Value)) (i : Nat) (p : (Nat × Nat) × Value), vs[i]? = some p → (keyCs vs)[i * 3]? = some (.int .u32 (p.1.1 : Int)) ∧ (keyCs vs)[i * 3 + 1]? = some (.int .u16 (p.1.2 : Int)) ∧ (keyCs vs)[i * 3 + 2]? = some p.2
  | [], i, p, h => by simp at h
  | q :: vs, 0, p, h => by
    simp only [List.getElem?_cons_zero, Option.some.injEq] at h
    subst h
    exact ⟨rfl, rfl, rfl⟩
  | q :: vs, i + 1, p, h => by
    have := keyCs_at vs i p (by simpa using h)
    rw [show (i + 1) * 3 = i * 3 + 1 + 1 + 1 by omega]
    exact this
theorem RgV.at {w : World} {B : Nat} : ∀ {vs : List ((Nat × Nat) × Value)} {l : RgL}, RgV w B vs l → ∀ {i : Nat} {q : (Nat × Nat) × List Nat}, l[i]? = some q → ∃ v, vs[i]? = some (q.1, v) ∧ OwB w B v q.2
  | [], [], _, i, q, hq => by simp at hq
  | p :: ps, q0 :: qs, h, 0, q, hq => by
    simp only [List.getElem?_cons_zero, Option.some.injEq] at hq
    subst hq
    exact ⟨p.2, by rw [← h.1.1]; rfl, h.1.2⟩
  | p :: ps, q0 :: qs, h, i + 1, q, hq => by
    obtain ⟨v, h1, h2⟩ := RgV.at h.2 (i := i) (q := q) (by simpa using hq)
    exact ⟨v, by simpa using h1, h2⟩
  | [], _ :: _, h, _, _, _ => h.elim
  | _ :: _, [], h, _, _, _ => h.elim
theorem RgV.len {w : World} {B : Nat} : ∀ {vs : List ((Nat × Nat) × Value)} {l : RgL}, RgV w B vs l → vs.length = l.length
  | [], [], _ => rfl
  | p :: ps, q :: qs, h => by rw [List.length_cons, List.length_cons, RgV.len h.2]
  | [], _ :: _, h => h.elim
  | _ :: _, [], h => h.elim
section
variable {w w' : World} {B g : Nat} {v : Value} {vs : List ((Nat × Nat) × Value)} {l : RgL}
end
theorem getR_none {x : Nat × Nat} {l : RgL} : getR x l = none ↔ ∀ p ∈ l, p.1 ≠ x := by
  unfold getR
  rw [Option.map_eq_none_iff, List.find?_eq_none]
  simp
theorem getR_idx {x : Nat × Nat} : ∀ {l : RgL} {k : List Nat}, getR x l = some k → ∃ i, l[i]? = some (x, k) ∧ ∀ (j : Nat) (q : (Nat × Nat) × List Nat), j < i → l[j]? = some q → q.1 ≠ x
  | [], k, h => by cases h
  | p :: r, k, h => by
    by_cases hx : p.1 = x
    · have : k = p.2 := by
        unfold getR at h
        rw [List.find?_cons_of_pos (by simpa using hx)] at h
        injection h with h
        exact h.symm
      refine ⟨0, by rw [this, ← hx]; rfl, fun j q hj => absurd hj (Nat.not_lt_zero j)⟩
    · have h2 : getR x r = some k := by
        unfold getR at h ⊢
        rwa [List.find?_cons_of_neg (by simpa using hx)] at h
      obtain ⟨i, h3, h4⟩ := getR_idx h2
      refine ⟨i + 1, by simpa using h3, fun j q hj hq => ?_⟩
      cases j with
      | zero =>
        simp only [List.getElem?_cons_zero, Option.some.injEq] at hq
        subst hq
        exact hx
      | succ j => exact h4 j q (by omega) (by simpa using hq)
end Go.Proofs.Ytobjdhpdljiijaa

namespace Go.Proofs.Ytobjdhpdljiijaa
open Go.RowKit
set_option linter.unusedVariables false

section
variable {w w' : World} {F : Nat → Prop}
theorem CbB.fr {g : Nat} {T : TypeId} {cs : Array Value} (h : CbB w g T cs) (hf : Fr w w' F) (hn : ¬ F g) : CbB w' g T cs := (hf.block g h.lt hn).trans h
theorem IsB.fr {A : Option Addr} {n c : Nat} {l : List Nat} (h : IsB w A n c l) (hf : Fr w w' F) (hn : ∀ x, A = Option.some x → ¬ F x.block) : IsB w' A n c l :=
  ⟨h.1.keep hf.size fun x i e hi => World.cell?_of_block (by
    rw [add_block]
    obtain ⟨y, e', hy, _⟩ := h.1.at (by omega)
    rw [e] at e'
    injection e' with e'
    exact hf.block _ (by rw [e']; exact hy) (hn x e)), h.2⟩
theorem OwB.fr {B : Nat} {v : Value} {l : List Nat} (h : OwB w B v l) (hf : Fr w w' F) (hn : ∀ g, v.ownBlock = some g → ¬ F g) : OwB w' B v l := by
  refine ⟨⟨h.own.1, ?_⟩, h.byt⟩
  rcases h.own.2 with hx | ⟨g, cap, cur, rfl, hb, hh, rest⟩
  · exact .inl hx
  · have hg : g < w.heap.size := (Array.getElem?_eq_some_iff.1 hh).1
    exact .inr ⟨g, cap, cur, rfl, hb, (hf.block g hg (hn g rfl)).trans hh, rest⟩
theorem row_fr {B n s : Nat} {e : TypeId} {v : Value} {xs : List Value} (h : w.ownsRow B e s v n xs) (hf : Fr w w' F) (hn : ∀ g, v.ownBlock = some g → ¬ F g) : w'.ownsRow B e s v n xs := by
  refine ⟨h.1, ?_⟩
  rcases h.2 with hx | ⟨g, cap, cur, rfl, hb, hh, rest⟩
  · exact .inl hx
  · have hg : g < w.heap.size := (Array.getElem?_eq_some_iff.1 hh).1
    exact .inr ⟨g, cap, cur, rfl, hb, (hf.block g hg (hn g rfl)).trans hh, rest⟩
theorem row_ne {B n s g : Nat} {e T : TypeId} {v : Value} {xs : List Value} {cs : Array Value} (h : w.ownsRow B e s v n xs) (hc : CbB w g T cs) (hT : T ≠ e) : v.ownBlock ≠ some g := by
  intro he
  rcases h.2 with ⟨rfl, _⟩ | ⟨g', cap, cur, rfl, _, hh, _⟩
  · cases he
  · have : g' = g := by injection he
    subst this
    unfold CbB at hc
    rw [hc] at hh
    injection hh with hh
    injection hh with h1 h2
    exact hT h2
theorem row_own_ne {B B' n s : Nat} {e : TypeId} {v u : Value} {xs : List Value} {k : List Nat} (h : w.ownsRow B e s v n xs) (ho : OwB w B' u k) (hT : e ≠ 5) : ∀ g, u.ownBlock = some g → v.ownBlock ≠ some g := by
  intro g hg he
  rcases h.2 with ⟨rfl, _⟩ | ⟨g', cap, cur, rfl, _, hh, _⟩
  · cases he
  · have e1 : g' = g := by injection he
    rcases ho.own.2 with ⟨rfl, _⟩ | ⟨g2, cap2, cur2, rfl, _, hh2, _⟩
    · cases hg
    · have e2 : g2 = g := by injection hg
      subst e1
      subst e2
      rw [hh2] at hh
      injection hh with hh
      injection hh with h1 h2
      exact hT h2.symm
end
theorem own_ne' {w : World} {B lg : Nat} {T : TypeId} {cs : Array Value} {v : Value} {k : List Nat} (hT : T ≠ 5) (hl : CbB w lg T cs) (ho : OwB w B v k) : v.ownBlock ≠ some lg := by
  intro e
  rcases ho.own.2 with ⟨rfl, _⟩ | ⟨g, cap, cur, rfl, _, hh, _⟩
  · cases e
  · have : g = lg := by injection e
    subst this
    unfold CbB at hl
    rw [hl] at hh
    injection hh with hh
    injection hh with h1 h2
    exact hT h2
/-- a key's fresh copy -/
def CpyR (S kn : Nat) (key : List Nat) (v : Value) (W : World) : Prop := ∃ G, v = .slice (some ⟨G, 0, none⟩) kn (kn + 3) ∧ S ≤ G ∧ OwB W S v key
theorem CpyR.fr {S kn : Nat} {key : List Nat} {v : Value} {W W' : World} {F : Nat → Prop} (h : CpyR S kn key v W) (hf : Fr W W' F) (hF : ∀ k, F k → k < S) : CpyR S kn key v W' := by
  obtain ⟨G, rfl, h1, h2⟩ := h
  exact ⟨G, rfl, h1, h2.fr hf fun g hg hfg => by have := hF g hfg; have : G = g := by injection hg
                                                 omega⟩
end Go.Proofs.Ytobjdhpdljiijaa
