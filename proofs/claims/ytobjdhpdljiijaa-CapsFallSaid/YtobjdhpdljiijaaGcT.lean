/-
  WALKS: gcm.opens, gcm.tag, gcm.Seal, gcm.Open.
-/
import Derived.Test.YtobjdhpdljiijaaGhU
import Derived.Test.YtobjdhpdljiijaaWid3
import Derived.Test.YtobjdhpdljiijaaCtL
import Derived.ArgAppend
namespace Go.Proofs.Ytobjdhpdljiijaa
open Go.RowKit
set_option linter.unusedVariables false

/-- an append that finds no room: what it hands back is the call's own -/
theorem wpList_appGrow {P : Program} {w : World} {ops : Array Oper} {rest : List Oper} {o : Oper} {a : Act} {Q : Exit → Act → World → Prop} (hgd : o.guard = none) (s x : Operand) {t : TypeId}
    (ho : o.op = .call { callee := .builtin .append, args := #[s, x], argTypes := #[t, t] })
    {i : TypeInfo} {z : Value} (ht : P.underlying t = some (.slice 5)) (hi : P.info? 5 = some i) (hz : i.zero = some z) (hsize : i.size = 1) (hby : i.bytes = 1) (hzs : z.cells.size = 1)
    {A : Option Addr} {n c : Nat} {la : List Nat} (ha : IsB w A n c la) (hs : a.eval s = .slice A n c) {X : Addr} {m d : Nat} {lx : List Nat} (hx : IsB w (some X) m d lx) (he : a.eval x = .slice (some X) m d)
    (hnone : A = none → n = 0 ∧ c = 0) (hfull : c < n + m) (hm : n + m ≤ 140737488355328)
    (h : ∀ v' w', OwB w' w.heap.size v' (la ++ lx) → Below w.heap.size w w' → wpList P ops Q rest (a.put o.dst v') w') : wpList P ops Q (o :: rest) a w := by
  have l1 := ha.len
  have l2 := hx.len
  refine wpList_append_grows w hgd s x t ho 5 i z 1 1 ht hi hz hsize hby hzs (by decide) A n c (bvals la) hs hnone (by simp [bvals, l1]) (fun b hb j u hj => ?_) X m d (bvals lx) he (by simp [bvals, l2]) (fun j u hj => ?_) (fun u hu => ?_) hfull (by simp only [maxLen]; omega) (by omega) (fun v' w' hown hg => ?_)
  · subst hb
    have hj' : j < n := by
      rcases Nat.lt_or_ge j n with h | h
      · exact h
      · rw [List.getElem?_eq_none (by simp [bvals]; omega)] at hj; cases hj
    obtain ⟨y, e, _, hy⟩ := ha.cell (by omega)
    injection e with e
    subst e
    rw [hy j hj', ← hj]
    simp [bvals, at', List.getElem?_eq_getElem (show j < la.length by omega)]
  · have hj' : j < m := by
      rcases Nat.lt_or_ge j m with h | h
      · exact h
      · rw [List.getElem?_eq_none (by simp [bvals]; omega)] at hj; cases hj
    obtain ⟨y, e, _, hy⟩ := hx.cell (by omega)
    injection e with e
    subst e
    rw [hy j hj', ← hj]
    simp [bvals, at', List.getElem?_eq_getElem (show j < lx.length by omega)]
  · obtain ⟨y, _, rfl⟩ := List.mem_map.1 hu
    rfl
  · refine h v' w' ⟨?_, byt_app ha.2 hx.2⟩ ⟨hg.os, hg.tape, hg.output, hg.size, fun k hk => hg.block k hk (by simp)⟩
    rw [List.length_append, l1, l2]
    have e : bvals la ++ bvals lx = bvals (la ++ lx) := by simp [bvals]
    rw [← e]
    exact hown

/-- bytes of the call's own, in a tuple with an error's number -/
def TupB (B err : Nat) (l : List Nat) (v : Value) (W : World) : Prop := ∃ v0, v = .tuple #[v0, .int .i64 (err : Int)] ∧ OwB W B v0 l
theorem TupB.mono (B err : Nat) (l : List Nat) : Mono (TupB B err l) := fun v W W' ⟨v0, h1, h2⟩ hb => ⟨v0, h1, h2.ab hb⟩
def OwR (B : Nat) (l : List Nat) (v : Value) (W : World) : Prop := OwB W B v l
theorem OwR.mono (B : Nat) (l : List Nat) : Mono (OwR B l) := fun v W W' h hb => h.ab hb
theorem OwB.lower {w : World} {B B' : Nat} {v : Value} {l : List Nat} (h : OwB w B v l) (hb : B' ≤ B) : OwB w B' v l := by
  refine ⟨⟨h.own.1, ?_⟩, h.byt⟩
  rcases h.own.2 with hn | ⟨g, cap, cur, e, hb', rest⟩
  · exact .inl hn
  · exact .inr ⟨g, cap, cur, e, Nat.le_trans hb hb', rest⟩
theorem eval_got (a : Act) (t : Nat) : a.tmps[t]?.getD undef = a.eval (.tmp t) := by simp [Act.eval]
theorem add_zero' (A : Option Addr) : A.map (·.add 0) = A := by
  cases A with
  | none => rfl
  | some x => simp [Addr.add]
theorem IsB.clip {w : World} {A : Option Addr} {n c : Nat} {l : List Nat} (h : IsB w A n c l) : IsB w A n n l := by
  refine ⟨⟨h.1.1, Nat.le_refl _, Nat.le_trans h.1.2.1 h.1.2.2.1, h.1.2.2.2.1, ?_⟩, h.2⟩
  rcases h.1.2.2.2.2 with ⟨h1, h2⟩ | ⟨x, h1, h2, h3⟩
  · exact .inl ⟨h1, by have := h.1.2.1; omega⟩
  · exact .inr ⟨x, h1, fun h0 => h2 (by have := h.1.2.1; omega), h3⟩
theorem IsB.none {w : World} {n c : Nat} {l : List Nat} (h : IsB w none n c l) : n = 0 ∧ c = 0 := by
  rcases h.1.2.2.2.2 with ⟨h1, h2⟩ | ⟨x, h1, _⟩
  · exact ⟨by have := h.1.2.1; omega, h2⟩
  · cases h1
theorem gok_key {key nonce : List Nat} (h : GOk key nonce) : KeyOk key := h.1
theorem two_ways (a b : Bool) (P : Prop) (h1 : a = true → P) (h2 : a = false → b = true → P) (h : a = true ∨ b = true) : P := by
  cases a
  · exact h2 rfl (by simpa using h)
  · exact h1 rfl
end Go.Proofs.Ytobjdhpdljiijaa
