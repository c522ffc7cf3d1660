/-
  META PAGES: what is right, and the label: walks.
-/
import Derived.Test.YtobjdhpdljiijaaRgC
import Derived.Test.YtobjdhpdljiijaaSeB
namespace Go.Proofs.Ytobjdhpdljiijaa
open Go.RowKit
set_option linter.unusedVariables false

/-- a meta page -/
structure Mp where
  cm : Nat
  pg : Nat
  rc : Nat
  rg : Nat
  lv : Nat
  gn : Nat
  tn : Nat
deriving DecidableEq
structure Mp.Ok (m : Mp) : Prop where
  cm : m.cm < 18446744073709551616
  pg : m.pg < 4294967296
  rc : m.rc < 18446744073709551616
  rg : m.rg < 65536
  lv : m.lv < 256
  gn : m.gn < 65536
  tn : m.tn < 4294967296
def mpv (m : Mp) : Array Value := #[.int .u64 (m.cm : Int), .int .u32 (m.pg : Int), .int .u64 (m.rc : Int), .int .u16 (m.rg : Int), .int .u8 (m.lv : Int), .int .u16 (m.gn : Int), .int .u32 (m.tn : Int)]
/-- a block with just these cells -/
def CbB (w : World) (g : Nat) (T : TypeId) (cs : Array Value) : Prop := w.heap[g]? = some (.cells cs T (0, 0))
section
variable {w w' : World} {g : Nat} {T : TypeId} {cs : Array Value}
theorem CbB.lt (h : CbB w g T cs) : g < w.heap.size := lt_of_block h
theorem CbB.low {C : Nat} (h : CbB w g T cs) (hb : Below C w w') (hC : g < C) : CbB w' g T cs := (hb.block g hC).trans h
theorem CbB.ab (h : CbB w g T cs) (hb : Below w.heap.size w w') : CbB w' g T cs := (hb.block g h.lt).trans h
theorem CbB.grown {r : Nat} (h : CbB w g T cs) (hg : w.grownBy w' (some r)) (hr : g ≠ r) : CbB w' g T cs := (hg.block g h.lt (by simp [hr])).trans h
theorem CbB.new (w : World) (T : TypeId) (cs : Array Value) : CbB (w.alloc (.cells cs T)) w.heap.size T cs := heap_alloc_new w _
theorem CbB.cell (h : CbB w g T cs) {k : Nat} {v : Value} (hk : cs[k]? = some v) : w.cell? ⟨g, k, none⟩ = some v := by rw [cell_of_row w g k _ _ (0, 0) h]; exact hk
theorem CbB.free (h : CbB w g T cs) (k : Nat) : w.frozen? ⟨g, k, none⟩ = false := frozen_of_row w g k _ _ h
theorem CbB.set (h : CbB w g T cs) (k : Nat) (v : Value) : CbB (w.setCell ⟨g, k, none⟩ v) g T (cs.setIfInBounds k v) := heap_setCell_same w g k _ _ v h
theorem CbB.far (h : CbB w g T cs) {c k : Nat} (hne : g ≠ c) (u : Value) : CbB (w.setCell ⟨c, k, none⟩ u) g T cs := (Below.heap_setCell w ⟨c, k, none⟩ u g hne).trans h
end
def mp0 : Mp := ⟨0, 0, 0, 0, 0, 0, 0⟩
theorem mp0_ok : mp0.Ok := ⟨by decide, by decide, by decide, by decide, by decide, by decide, by decide⟩
/-- a struct is stored whole: the new world's name -/
theorem wpList_storeC {P : Program} {ops : Array Oper} {rest : List Oper} {o : Oper} {a : Act} {w : World} {Q : Exit → Act → World → Prop} (hgd : o.guard = none) (T : TypeId) (x y : Operand) (ho : o.op = .store T x y)
    (g : Nat) (hx : a.eval x = .pointer (some ⟨g, 0, none⟩)) (cs' : Array Value) (hy : a.eval y = .agg cs') {cs : Array Value} {t : TypeId} (hg : CbB w g t cs) (hi : (P.info? T).map (·.size) = some cs'.size) (h0 : cs.size = cs'.size) (h1 : cs'.all (·.oneCell') = true)
    (h : ∀ w2, w2 = w.setRow g cs' → wpList P ops Q rest (a.put o.dst undef) w2) : wpList P ops Q (o :: rest) a w := by
  have hrun := run_storeVar_row (P := P) w g t T cs cs' hg hi h0 h1
  refine wpList_plain hgd fun K hK => ?_
  have hK := hK _ _ (h _ rfl)
  unfold Oper.wp execOp
  simp only [ho, hx, hy, Instr.storeAt, Instr.sureAddr, Sem.run_bind, Sem.run_pure, Result.andThen_ok, hrun]
  exact hK
theorem CbB.row {w : World} {g : Nat} {T : TypeId} {cs : Array Value} (h : CbB w g T cs) (cs' : Array Value) : CbB (w.setRow g cs') g T cs' := setRow_heap w g _ _ _ _ h
theorem CbB.rowFar {w : World} {g c : Nat} {T : TypeId} {cs : Array Value} (h : CbB w g T cs) (hne : g ≠ c) (cs' : Array Value) : CbB (w.setRow c cs') g T cs := (setRow_other w c g cs' hne).trans h
theorem mpv_one (m : Mp) : (mpv m).all (·.oneCell') = true := by simp [mpv, Value.oneCell']
def noRefB (m : Mp) : Bool := decide (m.pg = 0) && decide (m.rc = 0) && decide (m.rg = 0)
def rightB (m : Mp) : Bool := !(decide (m.cm = 0) || decide (30 < m.lv) || (noRefB m && !decide (m.lv = 0)))
def rightE (m : Mp) : Nat := bif rightB m then 0 else 2
def labM (m : Mp) : Lb := ⟨0, 4, 0, m.cm % 2, m.cm, m.gn⟩
theorem labM_ok {m : Mp} (h : m.Ok) : (labM m).Ok := ⟨by simp [labM], by simp [labM], by simp [labM], by have := h.cm; simp only [labM]; omega, h.cm, h.gn⟩

theorem lab_cells (l : Lb) : lab l = #[.int .u32 (l.ten : Int), .int .u8 (l.k : Int), .int .u8 (l.lv : Int), .int .u32 (l.pg : Int), .int .u64 (l.cm : Int), .int .u16 (l.gn : Int)] := rfl
end Go.Proofs.Ytobjdhpdljiijaa
