/-
  CAPS: a parameter []Op opened; two lists of numbers held against each other; CapsPlays: walks.
-/
import Derived.Test.YtobjdhpdljiijaaCpD
import Derived.Test.YtobjdhpdljiijaaTrd
namespace Go.Proofs.Ytobjdhpdljiijaa
open Go.RowKit Go.ChangeShapes Go.WideShapes
set_option linter.unusedVariables false

/-- a call that is asked -/
structure OArg where
  k : Int
  h : Nat
  v : Nat
  r : Nat
def ocv (q : OArg) : Array Value := #[.int .i64 q.k, .int .u64 (q.h : Int), .int .u64 (q.v : Int), .int .u8 (q.r : Int)]
structure OpB (w : World) (A : Option Addr) (n c : Nat) (qs : List OArg) : Prop where
  len : qs.length = n
  cap : n ≤ c
  max : c ≤ maxLen
  cel : ∀ (i : Nat) (q : OArg), qs[i]? = some q → ∃ x, A = some x ∧ x.block < w.heap.size ∧ (∀ (j : Nat) (u : Value), (ocv q)[j]? = some u → w.cell? (x.add (i * 4 + j)) = some u) ∧ u64Ok q.h ∧ u64Ok q.v ∧ q.r < 256
section
variable {H : Type} {enc : TypeId × Value → H} {W : World}
theorem list4a {α : Type} {cs : List α} (h : cs.length = 4) : ∃ c0 c1 c2 c3, cs = [c0, c1, c2, c3] := by
  match cs, h with
  | [c0, c1, c2, c3], _ => exact ⟨c0, c1, c2, c3, rfl⟩
set_option maxRecDepth 100000 in
theorem op_trod {fuel : Nat} {cs : List Value} {x : DataW H × List MemPlace} (h : DataW.trod enc Try.prog W 0 (fun _ => true) true fuel 31 cs = some x) : ∃ q : OArg, cs = (ocv q).toList ∧ u64Ok q.h ∧ u64Ok q.v ∧ q.r < 256 := by
  obtain ⟨y0, y1, y2, y3, n, hx, hl, h0, h1, h2, h3⟩ := trod_struct4X Try.underlying31 h
  have c4 : Try.prog.cellsOf 31 = 4 := by kernel_rfl
  have ci : Try.prog.cellsOf 3 = 1 := by kernel_rfl
  have cl : Try.prog.cellsOf 28 = 1 := by kernel_rfl
  have cr : Try.prog.cellsOf 29 = 1 := by kernel_rfl
  rw [c4] at hl
  obtain ⟨v0, v1, v2, v3, rfl⟩ := list4a hl
  simp only [ci, cl, cr] at h0 h1 h2 h3
  obtain ⟨n0, e0, w0⟩ := int_trodX Try.underlying3 h0
  obtain ⟨n1, e1, w1⟩ := int_trodX Try.underlying28 h1
  obtain ⟨n2, e2, w2⟩ := int_trodX Try.underlying28 h2
  obtain ⟨n3, e3, w3⟩ := int_trodX Try.underlying29 h3
  simp at e0 e1 e2 e3
  subst e0 e1 e2 e3
  obtain ⟨a1, rfl, b1⟩ := nat_intX (m := 18446744073709551616) w1 rfl (by decide)
  obtain ⟨a2, rfl, b2⟩ := nat_intX (m := 18446744073709551616) w2 rfl (by decide)
  obtain ⟨a3, rfl, b3⟩ := nat_intX (m := 256) w3 rfl (by decide)
  exact ⟨⟨n0, a1, a2, a3⟩, rfl, b1, b2, b3⟩
set_option maxRecDepth 100000 in
theorem open_ops25 {base : Nat} {v : Value} {d : DataW H} {p : List MemPlace} (hk : Value.okWide Try.prog W .any base 22 v)
    (h : DataW.Trod enc Try.prog W 0 (fun _ => true) true 22 v d p) (hlt : ∀ x ∈ p, x.block < W.heap.size) : ∃ A n c qs, v = .slice A n c ∧ OpB W A n c qs := by
  obtain ⟨A, n, c, rfl⟩ := okWide_slice Try.underlying22 hk
  have c4 : Try.prog.cellsOf 31 = 4 := by kernel_rfl
  obtain ⟨fuel, hf⟩ := h
  rcases Go.Deep.open_slice Try.underlying22 hf with ⟨hcs, hx⟩ | ⟨a, len, cap, m, nn, D, Pl, hcs, hb, hl, hm, hmm, hx, hi⟩
  · simp [Value.cells] at hcs
    obtain ⟨rfl, rfl, rfl⟩ := hcs
    exact ⟨none, 0, 0, [], rfl, rfl, Nat.le_refl _, Nat.zero_le _, fun i q hq => by simp at hq⟩
  · simp [Value.cells] at hcs
    obtain ⟨rfl, rfl, rfl⟩ := hcs
    rw [c4] at hi hx
    have hmc : m = c := by simpa using hmm
    subst hmc
    have hp : p = MemPlace.row a (m * 4) ++ (List.range m).flatMap Pl := by simpa using congrArg (·.2) hx
    have hkey : ∀ i, i < n → ∃ q : OArg, (∀ (j : Nat) (u : Value), (ocv q)[j]? = some u → W.cell? (a.add (i * 4 + j)) = some u) ∧ u64Ok q.h ∧ u64Ok q.v ∧ q.r < 256 := fun i hin => by
      obtain ⟨cs', hc, ht⟩ := hi i (by omega)
      obtain ⟨_, hcl, hat⟩ := World.cells?_some hc
      obtain ⟨q, rfl, h1, h2, h3⟩ := op_trod ht
      refine ⟨q, fun j u hu => ?_, h1, h2, h3⟩
      have hj : j < 4 := (Array.getElem?_eq_some_iff.1 hu).1
      have a0 := hat j (by simpa [ocv] using hj)
      rw [Go.Deep.add_add] at a0
      rw [a0]
      simpa using hu
    obtain ⟨ks, hkl, hks⟩ := list_ofX n hkey
    refine ⟨some a, n, m, ks, rfl, hkl, hl, hm, fun i q hq => ?_⟩
    have hin : i < n := by rw [← hkl]; exact (List.getElem?_eq_some_iff.1 hq).1
    refine ⟨a, rfl, ?_, hks i q hq⟩
    have h1 : MemPlace.cell a.block a.off ∈ MemPlace.row a (m * 4) := List.mem_map.2 ⟨0, List.mem_range.2 (by omega), by simp⟩
    exact hlt _ (by rw [hp]; exact List.mem_append_left _ h1)
end
theorem OpB.keep {w : World} {x : Addr} {n c : Nat} {qs : List OArg} (h : OpB w (some x) n c qs) {i : Nat} {q : OArg} (hq : qs[i]? = some q) : ∀ W, Below w.heap.size w W → W.cell? (x.add (i * 4)) = some (.int .i64 q.k) ∧ W.cell? ⟨(x.add (i * 4)).block, (x.add (i * 4)).off + 1, none⟩ = some (.int .u64 (q.h : Int)) ∧ W.cell? ⟨(x.add (i * 4)).block, (x.add (i * 4)).off + 2, none⟩ = some (.int .u64 (q.v : Int)) ∧ W.cell? ⟨(x.add (i * 4)).block, (x.add (i * 4)).off + 3, none⟩ = some (.int .u8 (q.r : Int)) := fun W hW => by
  obtain ⟨y, hy, hxl, hcell, _⟩ := h.cel i q hq
  injection hy with hy
  subst hy
  have hk : ∀ (j : Nat) (u : Value), (ocv q)[j]? = some u → W.cell? (x.add (i * 4 + j)) = some u := fun j u hu => by
    rw [← hcell j u hu]
    refine World.cell?_of_block ?_
    rw [add_block]
    exact hW.block _ hxl
  have hk2 : ∀ (j : Nat) (u : Value), (ocv q)[j + 1]? = some u → W.cell? ⟨(x.add (i * 4)).block, (x.add (i * 4)).off + (j + 1), none⟩ = some u := fun j u hu => by
    have h2 := hk (j + 1) u hu
    rw [← Go.Deep.add_add] at h2
    exact h2
  exact ⟨hk 0 _ rfl, hk2 0 _ rfl, hk2 1 _ rfl, hk2 2 _ rfl⟩
theorem CpA.lower {w : World} {B B' c : Nat} {mo : Option Nat} {A : HL} (h : CpA w B c mo A) (hB : B' ≤ B) : CpA w B' c mo A := by
  obtain ⟨⟨l, h1, h2, h3⟩, h4, h5⟩ := h
  exact ⟨⟨l, ⟨h1.box, Nat.le_trans hB h1.low, fun m hm => ⟨Nat.le_trans hB (h1.map m hm).1, (h1.map m hm).2⟩, h1.nil, h1.le⟩, h2, h3⟩, h4, h5⟩
theorem putH_len (A : HL) (r u : Nat) : (putH A r u).2.length ≤ A.length + 1 := by
  unfold putH
  split <;> simp
theorem stepH_len (A : HL) (z : Int) (h v r : Nat) : (stepH A z h v r).length ≤ A.length + 1 := by
  unfold stepH giveH revokeH
  split
  · exact putH_len _ _ _
  · split
    · cases atH A h with
      | none => exact Nat.le_succ _
      | some x =>
        simp only
        cases (noGive x.r || overR r x.r)
        · exact putH_len _ _ _
        · exact Nat.le_succ _
    · split
      · cases atH A h with
        | none => exact Nat.le_succ _
        | some x =>
          simp only
          cases atH A v with
          | none => exact Nat.le_succ _
          | some y =>
            simp only
            cases mayRv A x h v
            · exact Nat.le_succ _
            · show (killH A v).length ≤ _
              rw [killH_len]
              exact Nat.le_succ _
      · split
        · rw [clearH_len]; exact Nat.le_succ _
        · exact Nat.le_succ _
end Go.Proofs.Ytobjdhpdljiijaa
