/-
  CAPS AND THE DOCUMENT's: one call of both: walk.
-/
import Derived.Test.YtobjdhpdljiijaaCrD
namespace Go.Proofs.Ytobjdhpdljiijaa
open Go.RowKit
set_option linter.unusedVariables false

section
variable {w w' : World} {B B' c g : Nat} {mo : Option Nat} {v : Value} {A A2 : HL} {F : Nat → Prop}
theorem CpA.fr (h : CpA w B c mo A) (hf : Fr w w' F) (hc : ¬ F c) (hm : ∀ m, mo = some m → ¬ F m) : CpA w' B c mo A := by
  obtain ⟨⟨l, h1, h2, h3⟩, h4, h5⟩ := h
  exact ⟨⟨l, ⟨h1.box.fr hf hc, Nat.le_trans h1.low hf.size, fun m hmm => ⟨(h1.map m hmm).1, (h1.map m hmm).2.same (hf.block m (h1.map m hmm).2.lt (hm m hmm))⟩, h1.nil, h1.le⟩, h2, h3⟩, h4, h5⟩
theorem CpA.box (h : CpA w B c mo A) : ∃ n : Int, CbB w c 45 #[.map mo, .int .u64 n] := by
  obtain ⟨⟨l, h1, _⟩, _⟩ := h
  exact ⟨_, h1.box⟩
theorem CpA.isMap (h : CpA w B c mo A) {m : Nat} (hm : mo = some m) : B ≤ m ∧ ∃ es ck, w.heap[m]? = some (.map es ck) := by
  obtain ⟨⟨l, h1, _⟩, _⟩ := h
  obtain ⟨h2, es, ck, h3, _⟩ := h1.map m hm
  exact ⟨h2, es, ck, h3⟩
theorem CpA.low (h : CpA w B c mo A) : B ≤ w.heap.size := by
  obtain ⟨⟨l, h1, _⟩, _⟩ := h
  exact h1.low
theorem box_ne {T T' : TypeId} {cs cs' : Array Value} {a b : Nat} (h : CbB w a T cs) (k : CbB w b T' cs') (hT : T ≠ T') : a ≠ b := fun e => by
  subst e
  unfold CbB at h k
  rw [h] at k
  injection k with k
  injection k with _ k
  exact hT k
theorem map_box_ne {T : TypeId} {cs : Array Value} {a b : Nat} (h : ∃ es ck, w.heap[a]? = some (.map es ck)) (k : CbB w b T cs) : a ≠ b := fun e => by
  subst e
  obtain ⟨es, ck, h⟩ := h
  unfold CbB at k
  rw [h] at k
  cases k
theorem map_row_ne {n s a : Nat} {e : TypeId} {xs : List Value} (h : ∃ es ck, w.heap[a]? = some (.map es ck)) (k : w.ownsRow B e s v n xs) : v.ownBlock ≠ some a := fun e1 => by
  obtain ⟨es, ck, h⟩ := h
  rcases k.2 with ⟨rfl, _⟩ | ⟨gb, cap, cur, rfl, _, hh, _⟩
  · cases e1
  · have : gb = a := by injection e1
    subst this
    rw [h] at hh
    cases hh
theorem CbB.frC {b : Nat} {T : TypeId} {cs : Array Value} (h : CbB w b T cs) (hT : T ≠ 45) (hc : CpA w B' c mo A2) (hf : Fr w w' (capF c mo)) : CbB w' b T cs := by
  obtain ⟨n, hb⟩ := hc.box
  refine h.fr hf ?_
  rintro (e | e)
  · exact box_ne h hb hT e
  · exact map_box_ne (hc.isMap e).2 h rfl
theorem belowC (hB : B ≤ c) (hc : CpA w B c mo A) (hf : Fr w w' (capF c mo)) : Below B w w' := Fr.below hf (fun k hk => by
  rcases hk with rfl | hk
  · exact hB
  · exact (hc.isMap hk).1) (Below.refl _ _) hc.low
end
def stepH (A : HL) (k : Int) (h v r : Nat) : HL := if k = 0 then (putH A 15 0).2 else if k = 1 then (giveH A h r).2 else if k = 2 then (revokeH A h v).2 else if k = 6 then clearH A else A
section
variable {B c g a b i : Nat} {W W' : World} {A : HL}
end
theorem takes6_pl {P : Program} {ops : Array Oper} {o : Oper} {a : Act} {W : World} {S : World → World → Prop} {R : Value → World → Prop} (hg : o.guard = none) (h : Yields6 P o a W S R) : Takes6 P ops o a W S R := .inl ⟨by simp [Region.wanted, hg], h⟩
end Go.Proofs.Ytobjdhpdljiijaa
