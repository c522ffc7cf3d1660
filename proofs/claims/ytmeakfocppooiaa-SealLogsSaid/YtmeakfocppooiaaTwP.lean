/-
  WHAT WAS SEALED TWICE UNDER ONE NONCE: the plain law.
-/
import Derived.Test.YtmeakfocppooiaaLgA
namespace Go.Proofs.Ytmeakfocppooiaa
open Go.RowKit
set_option linter.unusedVariables false

/-- a nonce; what else there is -/
def nonS (s : Sl) : Nat × Nat := (s.l.pg, s.l.cm)
def resS (s : Sl) : Lb × List Nat × List Nat := (s.l, s.key, s.pay)
def othr (pre : List Sl) (s : Sl) : Bool := pre.any fun t => decide (nonS t = nonS s) && !decide (resS t = resS s)
def twR (pre : List Sl) : List Sl → List Lb
  | [] => []
  | s :: r => (bif othr pre s then [s.l] else []) ++ twR (pre ++ [s]) r
def firstS (pre : List Sl) (x : Nat × Nat) : Option Sl := pre.find? fun t => decide (nonS t = x)
def mixdS (pre : List Sl) (x : Nat × Nat) : Bool := match firstS pre x with
  | some f => pre.any fun t => decide (nonS t = x) && !decide (resS t = resS f)
  | none => false
theorem othr_none {pre : List Sl} {s : Sl} (h : firstS pre (nonS s) = none) : othr pre s = false := by
  unfold firstS at h
  rw [List.find?_eq_none] at h
  unfold othr
  rw [List.any_eq_false]
  intro t ht
  have := h t ht
  simp at this
  simp [this]
theorem othr_some {pre : List Sl} {s f : Sl} (h : firstS pre (nonS s) = some f) : othr pre s = (mixdS pre (nonS s) || !decide (resS f = resS s)) := by
  have hm : f ∈ pre := List.mem_of_find?_eq_some h
  have hn : nonS f = nonS s := by simpa using List.find?_some h
  unfold mixdS othr
  rw [h]
  simp only
  by_cases e : resS f = resS s
  · rw [decide_eq_true e, Bool.not_true, Bool.or_false, e]
  · rw [decide_eq_false e, Bool.not_false, Bool.or_true]
    exact List.any_eq_true.2 ⟨f, hm, by simp [hn, e]⟩
theorem firstS_snoc (pre : List Sl) (s : Sl) (x : Nat × Nat) : firstS (pre ++ [s]) x = match firstS pre x with | some f => some f | none => if nonS s = x then some s else none := by
  unfold firstS
  rw [List.find?_append]
  cases h : pre.find? (fun t => decide (nonS t = x)) with
  | some f => rfl
  | none =>
    by_cases e : nonS s = x
    · simp [e]
    · simp [e]
theorem mixdS_old {pre : List Sl} {s f : Sl} (h : firstS pre (nonS s) = some f) : mixdS (pre ++ [s]) (nonS s) = othr pre s := by
  rw [othr_some h]
  unfold mixdS
  rw [firstS_snoc, h]
  simp only [List.any_append, List.any_cons, List.any_nil, decide_true, Bool.true_and, Bool.or_false]
  congr 2
  rw [decide_eq_decide]
  exact ⟨fun e => e.symm, fun e => e.symm⟩
theorem mixdS_new {pre : List Sl} {s : Sl} (h : firstS pre (nonS s) = none) : mixdS (pre ++ [s]) (nonS s) = false := by
  have h1 := othr_none h
  unfold mixdS
  rw [firstS_snoc, h]
  simp only [if_true, List.any_append, List.any_cons, List.any_nil, decide_true, Bool.not_true, Bool.and_false, Bool.or_false]
  exact h1
theorem mixdS_far {pre : List Sl} {s : Sl} {x : Nat × Nat} (h : nonS s ≠ x) : mixdS (pre ++ [s]) x = mixdS pre x := by
  unfold mixdS
  rw [firstS_snoc]
  cases hf : firstS pre x with
  | some f => simp [h]
  | none => simp [h]
end Go.Proofs.Ytmeakfocppooiaa
