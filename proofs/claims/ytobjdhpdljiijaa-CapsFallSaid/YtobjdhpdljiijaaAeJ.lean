/-
  WALKS: the program's words of a key.
-/
import Derived.Test.YtobjdhpdljiijaaCtC
import Derived.Deep.DeepCutAuto
import Derived.Laws.MakeOwn
namespace Go.Proofs.Ytobjdhpdljiijaa
open Go.RowKit
set_option linter.unusedVariables false

theorem at_map (l : List Nat) (o m : Nat) (h : o + m ≤ l.length) : ∀ i, i < ((l.drop o).take m).length → at' ((l.drop o).take m) i = at' l (o + i) := by
  intro i hi
  have : i < m := by simp at hi; omega
  simp [at', this]
theorem addr_add (x : Addr) (m i : Nat) : (x.add m).add i = x.add (m + i) := by
  unfold Addr.add
  by_cases h1 : m = 0 <;> by_cases h2 : i = 0 <;> simp [h1, h2, Nat.add_assoc]
theorem IsB.some {w : World} {x : Addr} {n c : Nat} {l : List Nat} (h : IsB w (some x) n c l) (i : Nat) (hi : i < n) : w.cell? (x.add i) = .some (.int .u8 (at' l i : Nat)) := by
  obtain ⟨y, e, _, hy⟩ := h.cell (by omega)
  injection e with e
  rw [e]
  exact hy i hi
/-- m bytes of it, from o on, as cells -/
theorem IsB.cells {w : World} {x : Addr} {n c : Nat} {l : List Nat} (h : IsB w (.some x) n c l) (o m : Nat) (hm : o + m ≤ n) : ∀ (j : Nat) (v : Value), (((l.drop o).take m).map (fun n : Nat => Value.int .u8 (n : Int)))[j]? = .some v → w.cell? ((x.add o).add j) = .some v := by
  intro j v hv
  have hl := h.len
  rw [List.getElem?_map] at hv
  have hj : j < m := by
    by_cases hj : j < m
    · exact hj
    · rw [List.getElem?_take, if_neg hj] at hv; simp at hv
  rw [addr_add, h.some (o + j) (by omega)]
  rw [List.getElem?_take, if_pos hj, List.getElem?_drop, List.getElem?_eq_getElem (by omega)] at hv
  simp only [at', List.getElem?_eq_getElem (show o + j < l.length by omega)]
  simpa using hv
theorem Bk.there {w : World} {b : Nat} {t : TypeId} {l : List Nat} (h : Bk w b t l) (o m : Nat) (hm : o + m ≤ l.length) : w.there b o m := fun j hj =>
  ⟨by rw [h.cell (by omega)]; rfl, h.free _⟩
theorem run_loadAny {P : Program} (w : World) (p : Addr) (ty : TypeId) (c : List Nat) {d : TypeDesc} (hc : ∀ j v, (c.map (fun n : Nat => Value.int .u8 (n : Int)))[j]? = .some v → w.cell? (p.add j) = .some v)
    (hu : P.underlying ty = .some d) (hi : (P.info? ty).map (·.size) = .some c.length) (hd : d.isRow = true := by rfl) : (Instr.loadAt ty (.pointer (.some p))).run P w = .ok (.agg (bts c)) w := by
  have hl : (loadCells p c.length).run P w = .ok (bts c) w := by
    have := run_loadCells_list (P := P) w p _ hc
    rw [List.length_map] at this
    exact this
  have hrun : (loadVar ty p).run P w = .ok (.agg (bts c)) w := by
    cases hq : P.info? ty with
    | none => simp [hq] at hi
    | some i =>
      have hs : i.size = c.length := by simpa [hq] using hi
      have hagg : (isAgg ty).run P w = .ok true w := by
        unfold isAgg
        rw [Sem.run_bind, run_underlying hu w]
        cases d <;> simp_all
      simp [loadVar, Sem.run_bind, hagg, sizeOf, typeInfo, hq, hs, hl]
  simp only [Instr.loadAt, Instr.sureAddr, Sem.run_bind, Sem.run_pure, Result.andThen_ok, hrun]
theorem run_storeB {P : Program} (w : World) (b o : Nat) (ty : TypeId) (c : List Nat) (ht : w.there b o c.length) (hi : (P.info? ty).map (·.size) = .some c.length) :
    (Instr.storeAt ty (.pointer (.some ⟨b, o, none⟩)) (.agg (bts c))).run P w = .ok () (w.setCells b o (c.map (fun n : Nat => Value.int .u8 (n : Int)))) := by
  have := run_storeAt_mid (P := P) w b o ty (bts c) (by rw [bts_size]; exact ht) (by rw [bts_size]; exact hi) (bts_one c)
  rw [bts_list] at this
  exact this
theorem wrap_u32 (z : Int) (h0 : 0 ≤ z) (h1 : z < 4294967296) : IntKind.u32.wrap z = z := by
  show z % 4294967296 = z
  omega
end Go.Proofs.Ytobjdhpdljiijaa
