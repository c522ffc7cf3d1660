/-
  META PAGES: what is right, and the label: walks.
-/
import Derived.Test.YtakgebbeknfplaaGreatRgC
import Derived.Test.YtakgebbeknfplaaGreatSeB
namespace Go.Proofs.YtakgebbeknfplaaGreat
open Go.RowKit
set_option linter.unusedVariables false

/-- a meta page -/
structure Mp where
  cm : Nat
  pg : Nat
  rc : Nat
  rg : Nat
  lv : Nat
  gn : Nat
  tn : Nat
deriving DecidableEq
structure Mp.Ok (m : Mp) : Prop where
  cm : m.cm < 18446744073709551616
  pg : m.pg < 4294967296
  rc : m.rc < 18446744073709551616
  rg : m.rg < 65536
  lv : m.lv < 256
  gn : m.gn < 65536
  tn : m.tn < 4294967296
def mpv (m : Mp) : Array Value := #[.int .u64 (m.cm : Int), .int .u32 (m.pg : Int), .int .u64 (m.rc : Int), .int .u16 (m.rg : Int), .int .u8 (m.lv : Int), .int .u16 (m.gn : Int), .int .u32 (m.tn : Int)]
/-- a block with just these cells -/
def CbB (w : World) (g : Nat) (T : TypeId) (cs : Array Value) : Prop := w.heap[g]? = some (.cells cs T (0, 0))
section
variable {w w' : World} {g : Nat} {T : TypeId} {cs : Array Value}
theorem CbB.lt (h : CbB w g T cs) : g < w.heap.size := lt_of_block h
theorem CbB.low {C : Nat} (h : CbB w g T cs) (hb : Below C w w') (hC : g < C) : CbB w' g T cs := (hb.block g hC).trans h
theorem CbB.ab (h : CbB w g T cs) (hb : Below w.heap.size w w') : CbB w' g T cs := (hb.block g h.lt).trans h
theorem CbB.grown {r : Nat} (h : CbB w g T cs) (hg : w.grownBy w' (some r)) (hr : g ≠ r) : CbB w' g T cs := (hg.block g h.lt (by simp [hr])).trans h
theorem CbB.new (w : World) (T : TypeId) (cs : Array Value) : CbB (w.alloc (.cells cs T)) w.heap.size T cs := heap_alloc_new w _
theorem CbB.cell (h : CbB w g T cs) {k : Nat} {v : Value} (hk : cs[k]? = some v) : w.cell? ⟨g, k, none⟩ = some v := by rw [cell_of_row w g k _ _ (0, 0) h]; exact hk
theorem CbB.free (h : CbB w g T cs) (k : Nat) : w.frozen? ⟨g, k, none⟩ = false := frozen_of_row w g k _ _ h
theorem CbB.set (h : CbB w g T cs) (k : Nat) (v : Value) : CbB (w.setCell ⟨g, k, none⟩ v) g T (cs.setIfInBounds k v) := heap_setCell_same w g k _ _ v h
theorem CbB.far (h : CbB w g T cs) {c k : Nat} (hne : g ≠ c) (u : Value) : CbB (w.setCell ⟨c, k, none⟩ u) g T cs := (Below.heap_setCell w ⟨c, k, none⟩ u g hne).trans h
end
/-- a block that is a meta page -/
def MpB (w : World) (g : Nat) (m : Mp) : Prop := w.heap[g]? = some (.cells (mpv m) 63 (0, 0))
theorem MpB.lt {w : World} {g : Nat} {m : Mp} (h : MpB w g m) : g < w.heap.size := lt_of_block h
theorem MpB.ab {w w' : World} {g : Nat} {m : Mp} (h : MpB w g m) (hb : Below w.heap.size w w') : MpB w' g m := (hb.block g h.lt).trans h
theorem MpB.low {w w' : World} {g C : Nat} {m : Mp} (h : MpB w g m) (hb : Below C w w') (hC : g < C) : MpB w' g m := (hb.block g hC).trans h
theorem MpB.grown {w w' : World} {g r : Nat} {m : Mp} (h : MpB w g m) (hg : w.grownBy w' (some r)) (hr : g ≠ r) : MpB w' g m := (hg.block g h.lt (by simp [hr])).trans h
theorem MpB.new (w : World) (m : Mp) : MpB (w.alloc (.cells (mpv m) 63)) w.heap.size m := heap_alloc_new w _
theorem MpB.cells {w : World} {g : Nat} {m : Mp} (h : MpB w g m) : w.cell? ⟨g, 0, none⟩ = some (.int .u64 (m.cm : Int)) ∧ w.cell? ⟨g, 1, none⟩ = some (.int .u32 (m.pg : Int)) ∧ w.cell? ⟨g, 2, none⟩ = some (.int .u64 (m.rc : Int)) ∧ w.cell? ⟨g, 3, none⟩ = some (.int .u16 (m.rg : Int)) ∧
    w.cell? ⟨g, 4, none⟩ = some (.int .u8 (m.lv : Int)) ∧ w.cell? ⟨g, 5, none⟩ = some (.int .u16 (m.gn : Int)) ∧ w.cell? ⟨g, 6, none⟩ = some (.int .u32 (m.tn : Int)) := by
  refine ⟨?_, ?_, ?_, ?_, ?_, ?_, ?_⟩ <;> (rw [cell_of_row w g _ _ _ (0, 0) h]; rfl)
def mp0 : Mp := ⟨0, 0, 0, 0, 0, 0, 0⟩
theorem mp0_ok : mp0.Ok := ⟨by decide, by decide, by decide, by decide, by decide, by decide, by decide⟩
/-- a struct is stored whole: the new world's name -/
theorem wpList_storeC {P : Program} {ops : Array Oper} {rest : List Oper} {o : Oper} {a : Act} {w : World} {Q : Exit → Act → World → Prop} (hgd : o.guard = none) (T : TypeId) (x y : Operand) (ho : o.op = .store T x y)
    (g : Nat) (hx : a.eval x = .pointer (some ⟨g, 0, none⟩)) (cs' : Array Value) (hy : a.eval y = .agg cs') {cs : Array Value} {t : TypeId} (hg : CbB w g t cs) (hi : (P.info? T).map (·.size) = some cs'.size) (h0 : cs.size = cs'.size) (h1 : cs'.all (·.oneCell') = true)
    (h : ∀ w2, w2 = w.setRow g cs' → wpList P ops Q rest (a.put o.dst undef) w2) : wpList P ops Q (o :: rest) a w := by
  have hrun := run_storeVar_row (P := P) w g t T cs cs' hg hi h0 h1
  refine wpList_plain hgd fun K hK => ?_
  have hK := hK _ _ (h _ rfl)
  unfold Oper.wp execOp
  simp only [ho, hx, hy, Instr.storeAt, Instr.sureAddr, Sem.run_bind, Sem.run_pure, Result.andThen_ok, hrun]
  exact hK
theorem CbB.row {w : World} {g : Nat} {T : TypeId} {cs : Array Value} (h : CbB w g T cs) (cs' : Array Value) : CbB (w.setRow g cs') g T cs' := setRow_heap w g _ _ _ _ h
theorem CbB.rowFar {w : World} {g c : Nat} {T : TypeId} {cs : Array Value} (h : CbB w g T cs) (hne : g ≠ c) (cs' : Array Value) : CbB (w.setRow c cs') g T cs := (setRow_other w c g cs' hne).trans h
theorem mpv_one (m : Mp) : (mpv m).all (·.oneCell') = true := by simp [mpv, Value.oneCell']
theorem szMp (m : Mp) : (Tryz.prog.info? 63).map (·.size) = some (mpv m).size := by
  have : (Tryz.prog.info? 63).map (·.size) = some 7 := by kernel_rfl
  exact this
def noRefB (m : Mp) : Bool := decide (m.pg = 0) && decide (m.rc = 0) && decide (m.rg = 0)
def rightB (m : Mp) : Bool := !(decide (m.cm = 0) || decide (30 < m.lv) || (noRefB m && !decide (m.lv = 0)))
def rightE (m : Mp) : Nat := bif rightB m then 0 else 2
def labM (m : Mp) : Lb := ⟨0, 4, 0, m.cm % 2, m.cm, m.gn⟩
theorem labM_ok {m : Mp} (h : m.Ok) : (labM m).Ok := ⟨by simp [labM], by simp [labM], by simp [labM], by have := h.cm; simp only [labM]; omega, h.cm, h.gn⟩

set_option maxRecDepth 100000 in
theorem eq_ref0 (p c g : Nat) (W : World) : (Op.equalIn 10000 59 (.agg #[.int .u32 (p : Int), .int .u64 (c : Int), .int .u16 (g : Int)]) (.agg #[.int .u32 0, .int .u64 0, .int .u16 0])).run Tryz.prog W = .ok (decide (p = 0) && decide (c = 0) && decide (g = 0)) W := by
  go_simp
  by_cases h1 : p = 0
  · by_cases h2 : c = 0
    · by_cases h3 : g = 0
      · simp [h1, h2, h3]
      · simp [h1, h2, h3]
    · simp [h1, h2]
  · simp [h1]
set_option maxRecDepth 100000 in
set_option maxHeartbeats 2000000 in
theorem right_any (m : Mp) (w : World) :
    Calls Tryz.prog 110 #[.agg (mpv m)] w fun e w' => e = .returned (.int .i64 (rightE m : Int)) ∧ Below w.heap.size w w' := by
  obtain ⟨cm, pg, rc, rg, lv, gn, tn⟩ := m
  simp only [rightE, rightB, noRefB, mpv]
  have he := fun W => eq_ref0 pg rc rg W
  have h1 : ((cm : Int) == 0) = decide (cm = 0) := by by_cases h : cm = 0 <;> simp [h]
  have h2 : decide ((30 : Int) < (lv : Int)) = decide (30 < lv) := by by_cases h : 30 < lv <;> simp [h] <;> omega
  have h3 : ((lv : Int) != 0) = !decide (lv = 0) := by by_cases h : lv = 0 <;> simp [h]
  generalize decide (cm = 0) = b1 at *
  generalize decide (30 < lv) = b2 at *
  generalize decide (lv = 0) = b3 at *
  generalize (decide (pg = 0) && decide (rc = 0) && decide (rg = 0)) = b4 at *
  cases b1 <;> cases b2 <;> cases b4 <;> cases b3
  all_goals
    go_enter Tryz.func110, Tryz.ntmps110
    go_wp2_with fail
    go_ret
    exact ⟨rfl, ((Below.refl _ _).alloc (Nat.le_refl _) _).alloc (by simp) _⟩
theorem lab_cells (l : Lb) : lab l = #[.int .u32 (l.ten : Int), .int .u8 (l.k : Int), .int .u8 (l.lv : Int), .int .u32 (l.pg : Int), .int .u64 (l.cm : Int), .int .u16 (l.gn : Int)] := rfl
set_option maxRecDepth 100000 in
set_option maxHeartbeats 2000000 in
theorem labelOf_any (m : Mp) (w : World) :
    Calls Tryz.prog 128 #[.agg (mpv m)] w fun e w' => e = .returned (.agg (lab (labM m))) ∧ Below w.heap.size w w' := by
  have hw : IntKind.u32.wrap ((m.cm : Int) % 2) = ((m.cm % 2 : Nat) : Int) := by
    show ((m.cm : Int) % 2) % 4294967296 = _
    omega
  rw [lab_cells]
  simp only [labM, mpv]
  obtain ⟨cm, pg, rc, rg, lv, gn, tn⟩ := m
  go_enter Tryz.func128, Tryz.ntmps128
  go_wp2_with fail
  refine bodyPost_ret (v := .agg #[.int .u32 0, .int .u8 4, .int .u8 0, .int .u32 ((cm % 2 : Nat) : Int), .int .u64 (cm : Int), .int .u16 (gn : Int)]) (by simp [results, Tryz.results128, go_sem]) rfl ⟨rfl, ((Below.refl _ _).alloc (Nat.le_refl _) _).alloc (by simp) _⟩
set_option maxRecDepth 100000 in
set_option maxHeartbeats 2000000 in
theorem rright_any (m : Mp) (w : World) :
    Calls Tryz.prog 193 #[.agg (mpv m)] w fun e w' => e = .returned (.bool (rightB m)) ∧ Below w.heap.size w w' := by
  obtain ⟨cm, pg, rc, rg, lv, gn, tn⟩ := m
  simp only [rightB, noRefB, mpv]
  have he := fun W => eq_ref0 pg rc rg W
  have h1 : decide (0 < cm) = !decide (cm = 0) := by by_cases h : cm = 0 <;> simp [h] <;> omega
  have h2 : decide ((lv : Int) ≤ 30) = !decide (30 < lv) := by by_cases h : 30 < lv <;> simp [h] <;> omega
  have h3 : ((lv : Int) == 0) = decide (lv = 0) := by by_cases h : lv = 0 <;> simp [h]
  generalize decide (cm = 0) = b1 at *
  generalize decide (30 < lv) = b2 at *
  generalize decide (lv = 0) = b3 at *
  generalize (decide (pg = 0) && decide (rc = 0) && decide (rg = 0)) = b4 at *
  cases b1 <;> cases b2 <;> cases b4 <;> cases b3
  all_goals
    go_enter Tryz.func193, Tryz.ntmps193
    go_wp2_with fail
    go_ret
    exact ⟨rfl, ((Below.refl _ _).alloc (Nat.le_refl _) _).alloc (by simp) _⟩
end Go.Proofs.YtakgebbeknfplaaGreat
