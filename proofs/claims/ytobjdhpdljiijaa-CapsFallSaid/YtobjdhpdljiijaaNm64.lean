/-
  LISTS OF NUMBERS OF ONE KIND (uint64): appended to, sorted by the library.
-/
import Derived.Test.YtobjdhpdljiijaaSv64H
import Derived.Test.YtobjdhpdljiijaaLgA
namespace Go.Proofs.Ytobjdhpdljiijaa.U64
open Go.RowKit Go.Sort
set_option linter.unusedVariables false

def nvs (l : List Nat) : List Value := l.map fun (n : Nat) => Value.int .u64 (n : Int)
theorem nvs_len (l : List Nat) : (nvs l).length = l.length := List.length_map _
theorem infoN : (Try.prog.info? 28).map (fun i => (i.zero, i.size, i.bytes)) = some (some (.int .u64 0), 1, 8) := by kernel_rfl
/-- numbers, one appended behind the other -/
def NsB (w : World) (B : Nat) (v : Value) (l : List Nat) : Prop := w.ownsRow B 28 1 v l.length (nvs l)
theorem NsB.nil (w : World) (B : Nat) : NsB w B (.slice none 0 0) [] := World.ownsRow_nil _ _ _ _
theorem NsB.kept {w w' : World} {B : Nat} {v : Value} {l : List Nat} {row : Option Nat} (h : NsB w B v l) (hg : w.grownBy w' row) (hne : v.ownBlock = none ∨ v.ownBlock ≠ row) : NsB w' B v l := World.ownsRow.kept h hg hne
theorem NsB.ab {w w' : World} {B : Nat} {v : Value} {l : List Nat} (h : NsB w B v l) (hb : Below w.heap.size w w') : NsB w' B v l := World.ownsRow.kept (row := none) h (grown_of hb none) (by cases hv : v.ownBlock <;> simp)
theorem NsB.lt {w : World} {B g : Nat} {v : Value} {l : List Nat} (h : NsB w B v l) (hg : v.ownBlock = some g) : g < w.heap.size := by
  rcases h.2 with ⟨rfl, _⟩ | ⟨g', cap, cur, rfl, _, hb, _⟩
  · cases hg
  · cases hg
    exact (Array.getElem?_eq_some_iff.1 hb).1
theorem NsB.form {w : World} {B : Nat} {v : Value} {l : List Nat} (h : NsB w B v l) : ∃ A c, v = .slice A l.length c ∧ ∀ i (hi : i < l.length), ∃ g, A = some ⟨g, 0, none⟩ ∧ w.cell? ⟨g, i, none⟩ = some (.int .u64 ((l[i] : Nat) : Int)) := by
  have h0 := h
  rcases h.2 with ⟨rfl, h1⟩ | ⟨g, cap, cur, rfl, _, hb, _⟩
  · exact ⟨none, 0, by rw [h1], fun i hi => by omega⟩
  · refine ⟨_, _, rfl, fun i hi => ⟨g, rfl, ?_⟩⟩
    have h2 := World.ownsRow.cellAt h0 i (by omega)
    rw [h2]
    simp [nvs, hi]
theorem wpList_appN {rest : List Oper} {ops : Array Oper} {o : Oper} {a : Act} {w : World} {Q : Exit → Act → World → Prop} (hgd : o.guard = none) (s x : Operand)
    (ho : o.op = .call { callee := .builtin .append, args := #[s, x], argTypes := #[26, 26] })
    {B G : Nat} {v : Value} {ls : List Nat} (hown : NsB w B v ls) (hs : a.eval s = v) (n : Nat) (hx : a.eval x = .slice (some ⟨G, 0, none⟩) 1 1) (hG : CbB w G 28 #[.int .u64 (n : Int)]) (hl : ls.length ≤ 100000) (hB : B ≤ w.heap.size)
    (h : ∀ v' w', NsB w' B v' (ls ++ [n]) → w.grownBy w' v.ownBlock → wpList Try.prog ops Q rest (a.put o.dst v') w') : wpList Try.prog ops Q (o :: rest) a w := by
  obtain ⟨i0, hi0, hz0, hz1, hz2⟩ := info_parts infoN
  obtain ⟨v1, W1, hrun, r1, r2, _⟩ := run_append_own (P := Try.prog) w B 26 o.type 28 i0 _ 1 8 Try.underlying26 hi0 hz0 hz1 hz2 rfl (by decide) v ls.length (nvs ls) hown ⟨G, 0, none⟩ 1 1 [.int .u64 (n : Int)] rfl (row_at hG) (by simp [Value.oneCell']) (by simp only [maxLen]; omega) (by omega) hB
  refine wpList_plain hgd fun K hK => ?_
  unfold Oper.wp execOp
  simp only [ho, resolve, invoke, builtin, Sem.run_bind, Sem.run_pure, Result.andThen_ok, List.map_toArray, List.map_cons, List.map_nil, hs, hx, hrun]
  refine hK _ _ (h v1 W1 ?_ r2)
  unfold NsB nvs
  rw [List.map_append, List.length_append, List.length_singleton]
  exact r1
theorem holds_own {w : World} {g : Nat} {cur : Array Value} {e : TypeId} {l : List Nat} (hb : w.heap[g]? = some (.cells cur e (0, 0))) (ht : cur.toList.take l.length = nvs l) : Holds (Value.int .u64) w g 0 (l.map fun (n : Nat) => (n : Int)).toArray := by
  intro j hj
  have hj' : j < l.length := by simpa using hj
  refine ⟨?_, by simp [World.frozen?, hb]⟩
  have h1 : (cur.toList.take l.length)[j]? = (nvs l)[j]? := by rw [ht]
  rw [List.getElem?_take_of_lt hj'] at h1
  simp only [World.cell?, hb, Nat.zero_add]
  simp only [Option.isSome_none, Bool.false_eq_true, if_false]
  rw [← Array.getElem?_toList, h1]
  simp [nvs, hj']
theorem heap_sorted {w : World} {g n : Nat} {os : Array Obj} {cur : Array Value} {e : TypeId} {fr : Nat × Nat} (d : Array Int) (hb : w.heap[g]? = some (.cells cur e fr)) :
    (grow (putRow (Value.int .u64) (Sort.ahead w n) g 0 d) os).heap[g]? = some (.cells (putCells (Value.int .u64) 0 d cur) e fr) := by
  have hg : g < w.heap.size := (Array.getElem?_eq_some_iff.1 hb).1
  rw [heap_grow_old _ _ (by simpa using hg)]
  simp [putRow, mapBlock, Sort.ahead, Array.getElem?_modify, hb, onCells]
theorem grownBy_sorted {w : World} {g n : Nat} {os : Array Obj} (d : Array Int) : w.grownBy (grow (putRow (Value.int .u64) (Sort.ahead w n) g 0 d) os) (some g) := by
  refine ⟨rfl, rfl, rfl, by simp, fun k hk hne => ?_⟩
  rw [heap_grow_old _ _ (by simpa using hk)]
  have : g ≠ k := fun e => hne (by rw [e])
  simp [putRow, mapBlock, Sort.ahead, Array.getElem?_modify, this]
theorem take_sorted (cur : Array Value) (ts : List Nat) (h : ts.length ≤ cur.size) : (putCells (Value.int .u64) 0 (ts.map fun (n : Nat) => (n : Int)).toArray cur).toList.take ts.length = nvs ts := by
  apply List.ext_getElem?
  intro j
  by_cases hj : j < ts.length
  · rw [List.getElem?_take_of_lt hj, Array.getElem?_toList]
    simp [putCells, nvs, hj, show j < cur.size by omega]
  · rw [List.getElem?_take_eq_none (by omega), List.getElem?_eq_none (by simp [nvs]; omega)]
theorem below_grownO {B : Nat} {a b c : World} {r : Option Nat} (h : Below B a b) (k : b.grownBy c r) (hr : ∀ g, r = some g → B ≤ g) (hs : B ≤ b.heap.size) : Below B a c := h.trans ⟨k.os, k.tape, k.output, k.size, fun i hi => k.block i (by omega) (fun e => by have := hr i e.symm; omega)⟩
def srt (l : List Nat) : List Nat := l.mergeSort fun a b => decide (a ≤ b)
theorem srt_len (l : List Nat) : (srt l).length = l.length := List.length_mergeSort _
theorem srt_mem {l : List Nat} {x : Nat} : x ∈ srt l ↔ x ∈ l := List.mem_mergeSort
theorem srt_int (l : List Nat) : (l.map fun (n : Nat) => (n : Int)).mergeSort (fun x y => decide (x ≤ y)) = (srt l).map fun (n : Nat) => (n : Int) := by
  unfold srt
  rw [List.map_mergeSort (s := fun x y : Int => decide (x ≤ y))]
  intro a _ b _
  simp
theorem srt_asc (l : List Nat) (hn : l.Nodup) : (srt l).Pairwise (· < ·) := by
  have h1 : (srt l).Pairwise fun a b => (decide (a ≤ b)) = true := List.pairwise_mergeSort (fun a b c h1 h2 => by simp at h1 h2 ⊢; omega) (fun a b => by simp; omega) l
  have h2 : (srt l).Nodup := (List.mergeSort_perm l _).nodup_iff.2 hn
  exact (h1.and h2).imp fun ⟨a, b⟩ => by simp at a; omega
/-- two rising lists of the same numbers are one -/
theorem asc_eq : ∀ {a b : List Nat}, a.Pairwise (· < ·) → b.Pairwise (· < ·) → (∀ x, x ∈ a ↔ x ∈ b) → a = b
  | [], [], _, _, _ => rfl
  | [], y :: _, _, _, h => absurd ((h y).2 (by simp)) (by simp)
  | x :: _, [], _, _, h => absurd ((h x).1 (by simp)) (by simp)
  | x :: r, y :: q, ha, hb, h => by
    obtain ⟨a1, a2⟩ := List.pairwise_cons.1 ha
    obtain ⟨b1, b2⟩ := List.pairwise_cons.1 hb
    have hxy : x = y := by
      rcases List.mem_cons.1 ((h x).1 (by simp)) with e | e
      · exact e
      · rcases List.mem_cons.1 ((h y).2 (by simp)) with e' | e'
        · exact e'.symm
        · have := a1 _ e'; have := b1 _ e; omega
    subst hxy
    congr 1
    refine asc_eq a2 b2 fun z => ?_
    constructor
    · intro hz
      rcases List.mem_cons.1 ((h z).1 (by simp [hz])) with e | e
      · have := a1 _ hz; omega
      · exact e
    · intro hz
      rcases List.mem_cons.1 ((h z).2 (by simp [hz])) with e | e
      · have := b1 _ hz; omega
      · exact e
/-- slices.Sort of such a list -/
theorem sort_own (B : Nat) (v : Value) (l : List Nat) (w : World) (h : NsB w B v l) (hl : l.length ≤ 100000) :
    Calls Try.prog 21 #[v] w fun e w' => e = .returned (.tuple #[]) ∧ NsB w' B v (srt l) ∧ w.grownBy w' v.ownBlock := by
  rcases h.2 with ⟨rfl, h1⟩ | ⟨g, cap, cur, rfl, hg, hb, hn, hc, hs, ht⟩
  · obtain rfl := List.eq_nil_of_length_eq_zero h1
    refine (s_Sort_nil none 0 w).mono ?_
    rintro e w' ⟨rfl, rfl⟩
    exact ⟨rfl, by rw [show srt [] = [] by simp [srt]]; exact NsB.nil _ _, World.grownBy.refl _ _⟩
  · rw [Nat.mul_one] at ht hs
    have h2 := sort_any g 0 cap (l.map fun (n : Nat) => (n : Int)) w (holds_own hb ht) (Array.getElem?_eq_some_iff.1 hb).1 (by simp; omega)
    rw [srt_int, List.length_map] at h2
    refine h2.mono ?_
    rintro e w' ⟨rfl, n, os, rfl⟩
    refine ⟨rfl, ⟨by rw [nvs_len, Nat.mul_one], .inr ⟨g, cap, _, by rw [srt_len], hg, heap_sorted _ hb, by rw [srt_len]; exact hn, hc, by simp [putCells, hs], ?_⟩⟩, grownBy_sorted _⟩
    rw [Nat.mul_one]
    exact take_sorted cur _ (by rw [srt_len]; omega)
end Go.Proofs.Ytobjdhpdljiijaa.U64
