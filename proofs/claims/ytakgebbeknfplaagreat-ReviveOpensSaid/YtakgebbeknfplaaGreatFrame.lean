/-
  THE FRAME OF A LAW: where a call returns true and leaves all that was there as it was, the row's 'post' holds, whatever the parameters' types are.
-/
import Derived.Test.YtakgebbeknfplaaGreatRows
import Derived.WalkKit
import Derived.ProofKit
import Derived.OpenShut
import Derived.SizedLaws
namespace Go.Proofs.YtakgebbeknfplaaGreat
open Go.ChangeShapes Go.WideShapes Go.ChangeAt Go.RowKit

theorem Tryz.own : ownKnob Tryz.prog.godebug = none := by kernel_rfl
theorem Tryz.laidOut : laidOutB Tryz.prog = true := by kernel_rfl

section
variable {H : Type} {enc : TypeId × Value → H} {P : Program}

/-- What was read of the arguments reads so again where nothing below the heap's old end has turned. -/
theorem trodAll_stays (hl : laidOutB P = true) {W W' : World} (hb : Below W.heap.size W W') : ∀ {ts : List TypeId} {vs : List Value} {ds : List (DataW H)} {ps : List MemPlace},
    ts.all (fun t => P.readableRec t && decide (t < P.types.size)) = true → DataW.TrodAll enc P W 0 (fun _ => true) true ts vs ds ps → (∀ x ∈ ps, x.block < W.heap.size) →
    DataW.TrodAll enc P W' 0 (fun b => decide (b < W.heap.size)) true ts vs ds ps
  | [], vs, ds, ps, _, h, _ => by
    obtain ⟨rfl, rfl, rfl⟩ := trodAll_nil h
    exact h
  | t :: ts, vs, ds, ps, ht, h, hlt => by
    obtain ⟨v, vs1, d, ds1, a, b, rfl, rfl, rfl, h1, h2⟩ := trodAll_cons h
    simp only [List.all_cons, Bool.and_eq_true, decide_eq_true_eq] at ht
    exact ⟨a, b, Below.trod hl ht.1.1 ht.1.2 h1 hb (fun x hx => hlt x (by simp [hx])), trodAll_stays hl hb (by simpa using ht.2) h2 (fun x hx => hlt x (by simp [hx])), rfl⟩

/-- THE LAW's POST. -/
theorem post_law {f : Func} {s : ChangeSpec} {W W' : World} {args : Array Value} {tb : TypeId} {ds : List (DataW H)} {before : List MemPlace}
    (hl : laidOutB P = true) (hts : f.params.toList.all (fun t => P.readableRec t && decide (t < P.types.size)) = true) (hv : s.vars = [])
    (hr : f.resultTypes = #[tb]) (hu : P.underlying tb = some .bool)
    (hs : s.fn H (ds ++ []) = { results := [.lit (.bool true)], args := ds })
    (hW : DataW.Whole enc P f.params.toList s.vars false W args.toList ds [] before) (hb : Below W.heap.size W W') :
    s.post enc P f false true false false W args (.bool true) W' := by
  have hlt : ∀ p ∈ before, p.block < W.heap.size := fun p hp => hW.lt p hp
  have hW0 := hW
  obtain ⟨p, q, hA, hV, hpq, _, _⟩ := hW0
  rw [hv] at hV
  have hq : q = [] := hV
  subst hq
  have hp : before = p := by simpa using hpq
  subst hp
  refine ⟨ds, [], before, [], before, [], hW, ?_, ?_, ?_, hb.frame _, fun h => by cases h⟩
  · rw [hs, hr]
    exact trodAll_cons_mk (shut_bool hu _) trodAll_mk0
  · rw [hs]
    exact trodAll_stays hl hb hts hA hlt
  · rw [hv]
    show DataW.TrodVars enc P W' _ [] (s.fn H (ds ++ [])).vars []
    rw [hs]
    rfl
end

/-- WHAT THE WALK IS TOLD OF A SLICE OF INTEGERS THAT CAME IN: the numbers 'zs' are its elements; where there is one it lies at an address below the heap's end. -/
def IsRow (k : IntKind) (w : World) (a : Option Addr) (len cap : Nat) (zs : List Int) : Prop :=
  zs.length = len ∧ len ≤ cap ∧ cap ≤ maxLen ∧ (∀ z ∈ zs, (Lit.int k z).wf = true) ∧
  ((a = none ∧ cap = 0) ∨ ∃ x, a = some x ∧ (0 < cap → x.block < w.heap.size) ∧ ∀ i, i < len → w.cell? (x.add i) = some (.int k (zs.getD i 0)))

theorem isRow_sized {H : Type} {enc : TypeId × Value → H} {P : Program} {W : World} {t e : TypeId} {k : IntKind} {bytes : Nat} {a : Option Addr} {len cap : Nat} {d : DataW H} {p : List MemPlace} (ht : P.underlying t = some (.slice e)) (he : P.underlying e = some (.int k)) (hc : P.cellsOf e = 1) (hby : P.bytesOf e = bytes)
    (h : DataW.Trod enc P W 0 (fun _ => true) true t (.slice a len cap) d p) (hlt : ∀ x ∈ p, x.block < W.heap.size)
    (hsz : ∀ elems spare, d = .slice elems spare → (elems.length + spare.length) * P.bytesOf e ≤ reachBytes) : ∃ zs, IsRow k W a len cap zs ∧ cap * bytes ≤ 140737488351232 := by
  subst hby
  obtain ⟨fuel, hf⟩ := h
  rcases open_ints ht he hc hf with ⟨hcs, _⟩ | ⟨x, l, c, zs, hcs, _, hl, hm, hz, hx, hcell, hwz⟩
  · simp [Value.cells] at hcs
    obtain ⟨rfl, rfl, rfl⟩ := hcs
    exact ⟨[], ⟨rfl, Nat.le_refl _, Nat.zero_le _, by simp, .inl ⟨rfl, rfl⟩⟩, by omega⟩
  · simp [Value.cells] at hcs
    obtain ⟨rfl, rfl, rfl⟩ := hcs
    have hz' : zs.length = cap := by simpa using hz
    have hp : p = MemPlace.row x zs.length := by simpa using congrArg (·.2) hx
    have hd : d = .slice (lits k (zs.take len)) (lits k (zs.drop len)) := by simpa using congrArg (·.1) hx
    have hs := hsz _ _ hd
    have hs2 : ((lits (H := H) k (zs.take len)).length + (lits (H := H) k (zs.drop len)).length) = cap := by simp [lits]; omega
    rw [hs2] at hs
    refine ⟨zs.take len, ⟨by simp [hz']; omega, hl, hm, fun z hzm => hwz z (List.mem_of_mem_take hzm), .inr ⟨x, rfl, fun h0 => ?_, fun i hi => ?_⟩⟩, hs⟩
    · have h1 : MemPlace.cell x.block x.off ∈ p := by
        rw [hp, hz']
        simp only [MemPlace.row, List.mem_map, List.mem_range]
        exact ⟨0, h0, by simp⟩
      exact hlt _ h1
    · rw [hcell i (by omega)]
      simp [List.getD, hi]

theorem isRow_of {H : Type} {enc : TypeId × Value → H} {P : Program} {W : World} {t e : TypeId} {k : IntKind} {a : Option Addr} {len cap : Nat} {d : DataW H} {p : List MemPlace} (ht : P.underlying t = some (.slice e)) (he : P.underlying e = some (.int k)) (hc : P.cellsOf e = 1)
    (h : DataW.Trod enc P W 0 (fun _ => true) true t (.slice a len cap) d p) (hlt : ∀ x ∈ p, x.block < W.heap.size) : ∃ zs, IsRow k W a len cap zs := by
  obtain ⟨fuel, hf⟩ := h
  rcases open_ints ht he hc hf with ⟨hcs, _⟩ | ⟨x, l, c, zs, hcs, _, hl, hm, hz, hx, hcell, hwz⟩
  · simp [Value.cells] at hcs
    obtain ⟨rfl, rfl, rfl⟩ := hcs
    exact ⟨[], rfl, Nat.le_refl _, Nat.zero_le _, by simp, .inl ⟨rfl, rfl⟩⟩
  · simp [Value.cells] at hcs
    obtain ⟨rfl, rfl, rfl⟩ := hcs
    have hz' : zs.length = cap := by simpa using hz
    have hp : p = MemPlace.row x zs.length := by simpa using congrArg (·.2) hx
    refine ⟨zs.take len, by simp [hz']; omega, hl, hm, fun z hzm => hwz z (List.mem_of_mem_take hzm), .inr ⟨x, rfl, fun h0 => ?_, fun i hi => ?_⟩⟩
    · have h1 : MemPlace.cell x.block x.off ∈ p := by
        rw [hp, hz']
        simp only [MemPlace.row, List.mem_map, List.mem_range]
        exact ⟨0, h0, by simp⟩
      exact hlt _ h1
    · rw [hcell i (by omega)]
      simp [List.getD, hi]

end Go.Proofs.YtakgebbeknfplaaGreat
