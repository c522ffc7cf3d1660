/-
  WALKS: ghash.Sum.
-/
import Derived.Test.YtpofndciepoooaaGhT
import Derived.Test.YtpofndciepoooaaGcB
import Derived.Test.YtpofndciepoooaaCtL
namespace Go.Proofs.Ytpofndciepoooaa
open Go.RowKit
set_option linter.unusedVariables false

theorem el_e2 (n : Nat) : el n = e2 (n / 18446744073709551616) (n % 18446744073709551616) := rfl
/-- a block of two words, as one number -/
def En (w : World) (g n : Nat) : Prop := w.heap[g]? = some (.cells (el n) 138 (0, 0))
section
variable {w w' : World} {g n : Nat}
theorem En.ek (k : En w g n) : Ek w g (n / 18446744073709551616) (n % 18446744073709551616) := k
theorem En.lt (k : En w g n) : g < w.heap.size := lt_of_block k
theorem En.ab (k : En w g n) (hb : Below w.heap.size w w') : En w' g n := (hb.block g k.lt).trans k
theorem En.alloc (k : En w g n) (o : Obj) : En (w.alloc o) g n := (Below.heap_alloc w o g k.lt).trans k
theorem En.newAt (w : World) (n : Nat) {m : Nat} (h : m = w.heap.size) : En (w.alloc (.cells (el n) 138)) m n := by rw [h]; exact heap_alloc_new w _
end
/-- s[m:] of bytes: Go keeps the old address where nothing is left of the capacity -/
def dropA (A : Option Addr) (c m : Nat) : Option Addr := if c = m then A else A.map (·.add m)
theorem isB_drop {w : World} {A : Option Addr} {n c : Nat} {l : List Nat} (h : IsB w A n c l) {m : Nat} (hm : m ≤ n) : IsB w (dropA A c m) (n - m) (c - m) (l.drop m) := by
  have := h.1.drop hm
  rw [← List.map_drop] at this
  exact ⟨this, byt_drop h.2 m⟩
theorem sl_from (W : World) (A : Option Addr) (n c m : Nat) (hm : m ≤ n) : (Instr.sliceAt 22 (.slice A n c) (some (.int .i64 (m : Int))) none none).run Try.prog W = .ok (.slice (dropA A c m) (n - m) (c - m)) W := by
  have h : Try.prog.underlying 22 = some (.slice (Try.prog.elem 22)) := by kernel_rfl
  have hs : (sizeOf (Try.prog.elem 22)).run Try.prog W = .ok 1 W := by
    have h : (Try.prog.info? (Try.prog.elem 22)).map (·.size) = some 1 := by kernel_rfl
    cases hq : Try.prog.info? (Try.prog.elem 22) with
    | none => rw [hq] at h; cases h
    | some i => rw [hq] at h; simp only [Option.map_some, Option.some.injEq] at h; simp [sizeOf, typeInfo, hq, h]
  rw [run_sliceAt_slice W _ _ _ _ _ h, run_slice_l W _ _ _ _ h .i64 (m : Int) (by omega) (by omega), hs]
  simp only [Result.andThen_ok, sliced, Nat.mul_one, Int.toNat_natCast]
  unfold dropA
  rfl
/-- copy of so many bytes as there is room for -/
theorem run_copyM (W : World) (ty : TypeId) (g o d dc m : Nat) {t : TypeId} {cur l : List Nat} (hg : Bk W g t cur) {A : Option Addr} {n c : Nat} (h : IsB W A n c l) (hn : 0 < n) (hm : m = Nat.min n d) (hfit : o + m ≤ cur.length) :
    (Builtin.copy_ #[22, 22] ty #[.slice (some ⟨g, o, none⟩) d dc, .slice A n c]).run Try.prog W = .ok (goInt m) (W.setRow g (bts (cur.take o ++ (l.take m ++ cur.drop (o + m))))) := by
  have hl := h.len
  obtain ⟨x, rfl, _, hx⟩ := h.cell hn
  have hmn : m ≤ n := by rw [hm]; exact Nat.min_le_left _ _
  have hlm : (l.take m).length = m := by rw [List.length_take]; omega
  have hr := run_copy_row (P := Try.prog) W 22 22 ty 5 g o d dc x n c (bts cur) t ((l.take m).map (fun n : Nat => Value.int .u8 (n : Int))) Try.underlying22 szByte hg (by rw [List.length_map, hlm]; exact hm)
    (fun j v hv => by
      rw [List.getElem?_map] at hv
      have hj : j < m := by
        by_cases h' : j < m
        · exact h'
        · rw [List.getElem?_eq_none (by omega)] at hv; simp at hv
      rw [hx j (by omega)]
      rw [List.getElem?_eq_getElem (by omega), List.getElem_take] at hv
      simp only [at', List.getElem?_eq_getElem (show j < l.length by omega)]
      simpa using hv)
    (by rw [List.length_map, bts_size, hlm]; omega) (fun v hv => by obtain ⟨x, _, rfl⟩ := List.mem_map.1 hv; rfl)
  rw [List.length_map, hlm] at hr
  rw [hr, List.append_assoc, bts_splice]
theorem wpList_copyM {ops : Array Oper} {rest : List Oper} {o : Oper} {a : Act} {w : World} {Q : Exit → Act → World → Prop} (hgd : o.guard = none) (s x : Operand)
    (ho : o.op = .call { callee := .builtin .copy, args := #[s, x], argTypes := #[22, 22] })
    (g p d dc m : Nat) {t : TypeId} {cur l : List Nat} (hg : Bk w g t cur) (hs : a.eval s = .slice (some ⟨g, p, none⟩) d dc) {A : Option Addr} {n c : Nat} (hx : a.eval x = .slice A n c) (hr : IsB w A n c l) (hn : 0 < n) (hm : m = Nat.min n d) (hfit : p + m ≤ cur.length) (l2 : List Nat) (he : cur.take p ++ (l.take m ++ cur.drop (p + m)) = l2)
    (h : ∀ w2, w2 = w.setRow g (bts l2) → wpList Try.prog ops Q rest (a.put o.dst (goInt m)) w2) : wpList Try.prog ops Q (o :: rest) a w := by
  have hrun := run_copyM w o.type g p d dc m hg hr hn hm hfit
  rw [he] at hrun
  refine wpList_plain hgd fun K hK => ?_
  unfold Oper.wp execOp
  simp only [ho, resolve, invoke, builtin, Sem.run_bind, Sem.run_pure, Result.andThen_ok, List.map_toArray, List.map_cons, List.map_nil, hs, hx, hrun]
  exact hK _ _ (h _ rfl)
end Go.Proofs.Ytpofndciepoooaa
