/-
  BLOCKS OF BYTES: arrays of bytes by value and in blocks of their own: loads, stores, cells, whatever their length.
-/
import Derived.Test.YtakgebbeknfplaaGreatAeA
import Derived.Test.YtakgebbeknfplaaGreatMem
import Derived.Deep.MidRow
import Derived.Deep.WholeRow
import Derived.Deep.RegionWith
import Derived.OneCell
import Derived.StillTailTactics
namespace Go.Proofs.YtakgebbeknfplaaGreat
open Go.RowKit
set_option linter.unusedVariables false

/-- bytes as cells -/
def bts (l : List Nat) : Array Value := (l.map (fun n : Nat => Value.int .u8 (n : Int))).toArray
theorem bts_size (l : List Nat) : (bts l).size = l.length := by simp [bts]
theorem bts_get (l : List Nat) (k : Nat) (h : k < l.length) : (bts l)[k]? = some (.int .u8 (l[k]?.getD 0 : Nat)) := by
  simp [bts, List.getElem?_eq_getElem h]
theorem bts_set (l : List Nat) (k n : Nat) : (bts l).setIfInBounds k (.int .u8 (n : Int)) = bts (l.set k n) := by
  simp [bts, List.map_set]
theorem bts_one (l : List Nat) : (bts l).all (·.oneCell') = true := by
  simp [bts, Value.oneCell']
theorem bts_extract (l : List Nat) (i j : Nat) : (bts l).extract i j = bts ((l.drop i).take (j - i)) := by
  simp [bts, List.map_take, List.map_drop]
theorem bts_list (l : List Nat) : (bts l).toList = l.map (fun n : Nat => Value.int .u8 (n : Int)) := by simp [bts]

/-- a block that holds just these bytes -/
def Bk (w : World) (b : Nat) (t : TypeId) (l : List Nat) : Prop := w.heap[b]? = some (.cells (bts l) t (0, 0))
section
variable {w w' : World} {b : Nat} {t : TypeId} {l : List Nat}
theorem Bk.lt (h : Bk w b t l) : b < w.heap.size := lt_of_block h
theorem Bk.cell (h : Bk w b t l) {k : Nat} (hk : k < l.length) : w.cell? ⟨b, k, none⟩ = some (.int .u8 (l[k]?.getD 0 : Nat)) := by
  rw [cell_of_row w b k _ t (0, 0) h, bts_get l k hk]
theorem Bk.free (h : Bk w b t l) (k : Nat) : w.frozen? ⟨b, k, none⟩ = false := frozen_of_row w b k _ t h
theorem Bk.set (h : Bk w b t l) (k n : Nat) : Bk (w.setCell ⟨b, k, none⟩ (.int .u8 (n : Int))) b t (l.set k n) := by
  have := heap_setCell_same w b k _ t (.int .u8 (n : Int)) h
  rw [bts_set] at this
  exact this
theorem Bk.far (h : Bk w b t l) {c k : Nat} (hne : b ≠ c) (u : Value) : Bk (w.setCell ⟨c, k, none⟩ u) b t l := (Below.heap_setCell w ⟨c, k, none⟩ u b hne).trans h
theorem Bk.alloc (h : Bk w b t l) (o : Obj) : Bk (w.alloc o) b t l := (Below.heap_alloc w o b h.lt).trans h
theorem Bk.drew (h : Bk w b t l) : Bk w.drew b t l := h
theorem Bk.drewN (h : Bk w b t l) (n : Nat) : Bk (w.drewN n) b t l := h
theorem Bk.below {B : Nat} (h : Bk w b t l) (hb : Below B w w') (hB : b < B) : Bk w' b t l := (hb.block b hB).trans h
theorem Bk.new (w : World) (t : TypeId) (l : List Nat) : Bk (w.alloc (.cells (bts l) t)) w.heap.size t l := heap_alloc_new w _
theorem Bk.row (h : Bk w b t l) (l' : List Nat) : Bk (w.setRow b (bts l')) b t l' := setRow_heap w b _ _ t _ h
theorem Bk.rowFar (h : Bk w b t l) {c : Nat} (hne : b ≠ c) (cs : Array Value) : Bk (w.setRow c cs) b t l := (setRow_other w c b cs hne).trans h
end
theorem Below.row {B : Nat} {a w : World} (h : Below B a w) {g : Nat} (hg : B ≤ g) (cs : Array Value) : Below B a (w.setRow g cs) :=
  h.trans ⟨rfl, rfl, rfl, by simp, fun k hk => setRow_other w g k cs (by omega)⟩

section
variable {P : Program}
theorem wp_loadB {o : Oper} {a : Act} {w : World} {K : Act → World → Prop} {Q : Exit → Act → World → Prop} (ty : TypeId) (x : Operand) (ho : o.op = .load ty x)
    (g : Nat) (hx : a.eval x = .pointer (some ⟨g, 0, none⟩)) {t : TypeId} {l : List Nat} (hg : Bk w g t l) {m : Nat} {e : TypeId}
    (hu : P.underlying ty = some (.array m e)) (hi : (P.info? ty).map (·.size) = some l.length)
    (h : K (a.put o.dst (.agg (bts l))) w) : o.wp P a w K Q :=
  wp_load_row ty x ho g hx t _ (0, 0) _ hg hu rfl (by rw [bts_size]; exact hi) h
theorem wpList_loadB {ops : Array Oper} {rest : List Oper} {o : Oper} {a : Act} {w : World} {Q : Exit → Act → World → Prop} (hgd : o.guard = none) (ty : TypeId) (x : Operand) (ho : o.op = .load ty x)
    (g : Nat) (hx : a.eval x = .pointer (some ⟨g, 0, none⟩)) {t : TypeId} {l : List Nat} (hg : Bk w g t l) {m : Nat} {e : TypeId}
    (hu : P.underlying ty = some (.array m e)) (hi : (P.info? ty).map (·.size) = some l.length)
    (h : wpList P ops Q rest (a.put o.dst (.agg (bts l))) w) : wpList P ops Q (o :: rest) a w :=
  wpList_plain hgd fun _ hK => wp_loadB ty x ho g hx hg hu hi (hK _ _ h)
theorem wp_storeB {o : Oper} {a : Act} {w : World} {K : Act → World → Prop} {Q : Exit → Act → World → Prop} (ty : TypeId) (x y : Operand) (ho : o.op = .store ty x y)
    (g : Nat) (hx : a.eval x = .pointer (some ⟨g, 0, none⟩)) (l' : List Nat) (hy : a.eval y = .agg (bts l')) {t : TypeId} {l : List Nat} (hg : Bk w g t l)
    (hi : (P.info? ty).map (·.size) = some l'.length) (hl : l.length = l'.length)
    (h : K (a.put o.dst undef) (w.setRow g (bts l'))) : o.wp P a w K Q := by
  have hrun := run_storeVar_row (P := P) w g t ty (bts l) (bts l') hg (by rw [bts_size]; exact hi) (by rw [bts_size, bts_size]; exact hl) (bts_one l')
  unfold Oper.wp execOp
  simp only [ho, hx, hy, Instr.storeAt, Instr.sureAddr, Sem.run_bind, Sem.run_pure, Result.andThen_ok, hrun]
  exact h
theorem wpList_storeB {ops : Array Oper} {rest : List Oper} {o : Oper} {a : Act} {w : World} {Q : Exit → Act → World → Prop} (hgd : o.guard = none) (ty : TypeId) (x y : Operand) (ho : o.op = .store ty x y)
    (g : Nat) (hx : a.eval x = .pointer (some ⟨g, 0, none⟩)) (l' : List Nat) (hy : a.eval y = .agg (bts l')) {t : TypeId} {l : List Nat} (hg : Bk w g t l)
    (hi : (P.info? ty).map (·.size) = some l'.length) (hl : l.length = l'.length)
    (h : wpList P ops Q rest (a.put o.dst undef) (w.setRow g (bts l'))) : wpList P ops Q (o :: rest) a w :=
  wpList_plain hgd fun _ hK => wp_storeB ty x y ho g hx l' hy hg hi hl (hK _ _ h)
theorem results_bts {fn : Func} {p : Tmp} {ty : TypeId} (h : fn.results = #[.cell p ty]) (tmps : Array Value) (w : World) (g : Nat) {t : TypeId} {l : List Nat}
    (hp : tmps.getD p undef = .pointer (some ⟨g, 0, none⟩)) (hg : Bk w g t l) {m : Nat} {e : TypeId} (hu : P.underlying ty = some (.array m e)) (hi : (P.info? ty).map (·.size) = some l.length) :
    (results fn tmps).run P w = .ok (.agg (bts l)) w :=
  results_cell_row h tmps w g t _ (0, 0) _ hp hg hu rfl (by rw [bts_size]; exact hi)
end

theorem Bk.newAt {w : World} {n : Nat} (t : TypeId) (l : List Nat) (h : n = w.heap.size) : Bk (w.alloc (.cells (bts l) t)) n t l := by subst h; exact Bk.new w t l
section
variable {P : Program}
/-- an element of an array of bytes that is a value -/
theorem run_index_byte (w : World) {t e : TypeId} {n : Nat} {i : TypeInfo} (l : List Nat) (k : Nat) (hu : P.underlying t = some (.array n e)) (he : P.underlying e = some (.int .u8)) (hi : P.info? e = some i) (hs : i.size = 1) (hk : k < n) (hl : l.length = n) :
    (Instr.index t (.agg (bts l)) (.int .i64 (k : Int))).run P w = .ok (.int .u8 (l[k]?.getD 0 : Nat)) w := by
  have h1 : ¬ ((n : Int) ≤ (k : Int)) := by omega
  have hg := bts_get l k (by omega)
  have h2 : (k : Int) < (n : Int) := by omega
  simp only [Instr.index, asIntOf, Sem.run_bind, Sem.run_pure, Result.andThen_ok, run_underlying hu]
  rw [if_pos ⟨by omega, h2⟩]
  simp [part, isAgg, sizeOf, typeInfo, run_underlying he, hi, hs, hg]
/-- a row of an array of arrays of bytes -/
theorem run_index_row (w : World) {t e u : TypeId} {n m : Nat} {i : TypeInfo} (l : List Nat) (k : Nat) (hu : P.underlying t = some (.array n e)) (he : P.underlying e = some (.array m u)) (hi : P.info? e = some i) (hs : i.size = m) (hk : k < n) :
    (Instr.index t (.agg (bts l)) (.int .i64 (k : Int))).run P w = .ok (.agg (bts ((l.drop (k * m)).take m))) w := by
  have h2 : (k : Int) < (n : Int) := by omega
  have hx : (bts l).extract (k * m) (k * m + m) = bts ((l.drop (k * m)).take m) := by
    rw [bts_extract, Nat.add_sub_cancel_left]
  simp only [Instr.index, asIntOf, Sem.run_bind, Sem.run_pure, Result.andThen_ok, run_underlying hu]
  rw [if_pos ⟨by omega, h2⟩]
  simp [part, isAgg, sizeOf, typeInfo, run_underlying he, hi, hs, hx]
end

/-- a region that draws its order: reads and quiet calls, then a tail in one order: walked once -/
theorem wp_still_tail {P : Program} {id : Nat} {Q : Exit → Act → World → Prop} {a : Act} {w : World} {l : List Oper} (n : Nat) (hm : P.follows .mixedOrders = true) (hB : Region.lexTailB .any l.toArray n = true)
    (h : wpStill P l.toArray w.drew (fun a' => wpList P l.toArray Q (l.drop n) a' w.drew) (l.take n) a) : (Code.region id l.toArray true).wp P Q a w :=
  wp_region_still_tail n hm hB h
theorem same_of {P : Program} {f : FuncId} {args : Array Value} {w : World} {v : Value} (h : Calls P f args w fun e w' => e = .returned v ∧ w = w') : Calls P f args w fun e w' => e = .returned v ∧ w' = w :=
  h.mono fun _ _ hh => ⟨hh.1, hh.2.symm⟩

/-- a list filled in place: behind k rounds the first k are f's, the rest as they were -/
def upd (f : Nat → Nat) (s : List Nat) (k : Nat) : List Nat := (List.range s.length).map fun i => if i < k then f i else s[i]?.getD 0
theorem upd_len (f : Nat → Nat) (s : List Nat) (k : Nat) : (upd f s k).length = s.length := by simp [upd]
theorem upd_zero (f : Nat → Nat) (s : List Nat) : upd f s 0 = s := by
  apply List.ext_getElem (by simp [upd])
  intro i h1 h2
  simp [upd, List.getElem?_eq_getElem h2]
theorem upd_get (f : Nat → Nat) (s : List Nat) (k i : Nat) (hi : i < s.length) : (upd f s k)[i]?.getD 0 = if i < k then f i else s[i]?.getD 0 := by
  simp [upd, hi]
theorem upd_step (f : Nat → Nat) (s : List Nat) (k : Nat) (hk : k < s.length) : (upd f s k).set k (f k) = upd f s (k + 1) := by
  apply List.ext_getElem (by simp [upd])
  intro i h1 h2
  rw [List.getElem_set]
  simp only [upd, List.getElem_map, List.getElem_range]
  by_cases h : k = i
  · subst h; simp
  · rw [if_neg h]
    have e : (i < k + 1) ↔ (i < k) := by omega
    simp [e]
theorem upd_all (f : Nat → Nat) (s : List Nat) : upd f s s.length = (List.range s.length).map f := by
  unfold upd
  refine List.map_congr_left fun i hi => ?_
  rw [if_pos (by simpa using hi)]

end Go.Proofs.YtakgebbeknfplaaGreat
