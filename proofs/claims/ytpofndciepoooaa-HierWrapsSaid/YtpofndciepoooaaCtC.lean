/-
  WALKS: ctr.First, ctr.Next; the reference's First, Next, Opens.
-/
import Derived.Test.YtpofndciepoooaaCtB
import Derived.Test.YtpofndciepoooaaAppL
namespace Go.Proofs.Ytpofndciepoooaa
open Go.RowKit
set_option linter.unusedVariables false

theorem run_copyB (W : World) (ty : TypeId) (g o d dc : Nat) {t : TypeId} {cur l : List Nat} (hg : Bk W g t cur) {A : Option Addr} {n c : Nat} (h : IsB W A n c l) (hn : 0 < n) (hnd : n ≤ d) (hfit : o + n ≤ cur.length) :
    (Builtin.copy_ #[22, 22] ty #[.slice (some ⟨g, o, none⟩) d dc, .slice A n c]).run Try.prog W = .ok (goInt n) (W.setRow g (bts (cur.take o ++ (l ++ cur.drop (o + n))))) := by
  have hl := h.len
  obtain ⟨x, rfl, _, hx⟩ := h.cell hn
  have hr := run_copy_row (P := Try.prog) W 22 22 ty 5 g o d dc x n c (bts cur) t (l.map (fun n : Nat => Value.int .u8 (n : Int))) Try.underlying22 szByte hg (by rw [List.length_map, hl]; exact (Nat.min_eq_left hnd).symm)
    (fun j v hv => by
      rw [List.getElem?_map] at hv
      have hj : j < n := by
        by_cases h' : j < n
        · exact h'
        · rw [List.getElem?_eq_none (by omega)] at hv; simp at hv
      rw [hx j hj]
      rw [List.getElem?_eq_getElem (by omega)] at hv
      simp only [at', List.getElem?_eq_getElem (show j < l.length by omega)]
      simpa using hv)
    (by rw [List.length_map, bts_size, hl]; omega) (by simp [Value.oneCell'])
  rw [List.length_map, hl] at hr
  rw [hr, List.append_assoc, bts_splice]
theorem wpList_copyB {ops : Array Oper} {rest : List Oper} {o : Oper} {a : Act} {w : World} {Q : Exit → Act → World → Prop} (hgd : o.guard = none) (s x : Operand)
    (ho : o.op = .call { callee := .builtin .copy, args := #[s, x], argTypes := #[22, 22] })
    (g p d dc : Nat) {t : TypeId} {cur l : List Nat} (hg : Bk w g t cur) (hs : a.eval s = .slice (some ⟨g, p, none⟩) d dc) {A : Option Addr} {n c : Nat} (hx : a.eval x = .slice A n c) (hr : IsB w A n c l) (hn : 0 < n) (hnd : n ≤ d) (hfit : p + n ≤ cur.length) (l2 : List Nat) (he : cur.take p ++ (l ++ cur.drop (p + n)) = l2)
    (h : ∀ w2, w2 = w.setRow g (bts l2) → wpList Try.prog ops Q rest (a.put o.dst (goInt n)) w2) : wpList Try.prog ops Q (o :: rest) a w := by
  have hrun := run_copyB w o.type g p d dc hg hr hn hnd hfit
  rw [he] at hrun
  refine wpList_plain hgd fun K hK => ?_
  unfold Oper.wp execOp
  simp only [ho, resolve, invoke, builtin, Sem.run_bind, Sem.run_pure, Result.andThen_ok, List.map_toArray, List.map_cons, List.map_nil, hs, hx, hrun]
  exact hK _ _ (h _ rfl)
/-- P5.1 -/
def firstC (l : List Nat) : List Nat := l ++ [0, 0, 0, 1]
def nextC (c : List Nat) : List Nat := c.take 12 ++ digB ((numB (c.drop 12) + 1) % 4294967296) 4
theorem firstC_len {l : List Nat} (h : l.length = 12) : (firstC l).length = 16 := by simp [firstC, h]
theorem nextC_len {c : List Nat} (h : c.length = 16) : (nextC c).length = 16 := by simp [nextC, digB_len, h]
theorem firstC_byt {l : List Nat} (h : Byt l) : Byt (firstC l) := byt_app h (fun x hx => by simp at hx; omega)
theorem nextC_byt {c : List Nat} (h : Byt c) : Byt (nextC c) := byt_app (fun x hx => h x (List.mem_of_mem_take hx)) (digB_byt _ 4)

theorem numB_drop12 {c : List Nat} (hc : Byt c) (lc : c.length = 16) : numB (c.drop 12) < 4294967296 := by
  have h1 := numB_lt (l := c.drop 12) (fun x hx => hc x (List.mem_of_mem_drop hx))
  have h2 : (c.drop 12).length = 4 := by simp [lc]
  rw [h2] at h1
  exact h1
theorem wrap_u32m (m : Nat) : IntKind.u32.wrap (m : Int) = ((m % 4294967296 : Nat) : Int) := by
  show (m : Int) % 4294967296 = _
  omega

set_option maxRecDepth 100000 in
set_option maxHeartbeats 1000000 in
theorem first_any (A : Option Addr) (c : Nat) (l : List Nat) (w : World) (hin : IsB w A 12 c l) :
    Calls Try.prog 21 #[.slice A 12 c] w fun e w' => e = .returned (.tuple #[.agg (bts (firstC l)), .int .i64 0]) ∧ Below w.heap.size w w' := by
  have hl := hin.len
  have hb2 : Bk ((w.alloc (.cells (bts z16) 23)).alloc (.cells (bts z16) 23)) (w.heap.size + 1) 23 z16 := Bk.newAt _ z16 (by simp)
  have hb1 : Bk ((w.alloc (.cells (bts z16) 23)).alloc (.cells (bts z16) 23)) w.heap.size 23 z16 := (Bk.newAt _ z16 rfl).alloc _
  have hbl : Below w.heap.size w ((w.alloc (.cells (bts z16) 23)).alloc (.cells (bts z16) 23)) := ((Below.refl _ _).alloc (Nat.le_refl _) _).alloc (by simp) _
  have hin2 : IsB ((w.alloc (.cells (bts z16) 23)).alloc (.cells (bts z16) 23)) A 12 c l := (hin.alloc _).alloc _
  have e1 : z16.take 0 ++ (l ++ z16.drop (0 + 12)) = l ++ [0, 0, 0, 0] := rfl
  have e2 : (l ++ [0, 0, 0, 0]).set 15 1 = firstC l := by
    unfold firstC
    rw [List.set_append_right _ _ (by omega), hl]
    rfl
  have HB2 := Lib.hid hb2
  have HB1 := Lib.hid hb1
  have HBL := Lib.hid hbl
  have HIN := Lib.hid hin2
  clear hb2 hb1 hbl hin2 hin
  have h15 : 15 < (l ++ [0, 0, 0, 0]).length := by simp; omega
  have h16 : (firstC l).length = 16 := firstC_len hl
  generalize firstC l = y at *
  have H15 := Lib.hid h15
  have H16 := Lib.hid h16
  have E2 := Lib.hid e2
  have E1 := Lib.hid e1
  clear h15 h16 e1 e2 hl
  go_enter Try.func21, Try.ntmps21
  go_wp2_with (first
    | (refine wpList_copyB (o := ⟨_, .call ⟨.builtin .copy, _, _⟩, _, _, _, _⟩) rfl _ _ rfl _ 0 16 16 HB2.out rfl rfl HIN.out (by decide) (by decide) (by decide) (l ++ [0, 0, 0, 0]) E1.out ?_
       intro w2 hw2
       have R1 : Hid (Bk w2 (w.heap.size + 1) 23 (l ++ [0, 0, 0, 0])) := Lib.hid (by rw [hw2]; exact HB2.out.row _)
       have R2 : Hid (Bk w2 w.heap.size 23 z16) := Lib.hid (by rw [hw2]; exact HB1.out.rowFar (c := w.heap.size + 1) (by omega) _)
       have R3 : Hid (Below w.heap.size w w2) := Lib.hid (by rw [hw2]; exact Below.row HBL.out (by omega) _)
       have hc15 := R1.out.cell H15.out
       have hf15 := R1.out.free 15
       generalize (l ++ [0, 0, 0, 0])[15]?.getD 0 = u15 at hc15
       have T1 : Hid (Bk (w2.setCell ⟨w.heap.size + 1, 15, none⟩ (.int .u8 1)) (w.heap.size + 1) 23 y) := Lib.hid (by rw [← E2.out]; exact R1.out.set 15 1)
       have T2 : Hid (Bk (w2.setCell ⟨w.heap.size + 1, 15, none⟩ (.int .u8 1)) w.heap.size 23 z16) := Lib.hid (R2.out.far (c := w.heap.size + 1) (by omega) _)
       have T3 : Hid (Below w.heap.size w (w2.setCell ⟨w.heap.size + 1, 15, none⟩ (.int .u8 1))) := Lib.hid (R3.out.setCell (by show w.heap.size ≤ w.heap.size + 1; omega) _)
       clear hw2)
    | (refine wpList_loadB (l := y) (o := ⟨some 13, _, _, _, _, _⟩) rfl 23 (.tmp 4) rfl (w.heap.size + 1) rfl (t := 23) ?_ Try.underlying23 (by rw [H16.out]; exact sz16) ?_
       · exact T1.out
       refine wpList_storeB (l := z16) (o := ⟨none, .store _ (.tmp 2) (.tmp 13), _, _, _, _⟩) rfl 23 (.tmp 2) (.tmp 13) rfl w.heap.size rfl y rfl (t := 23) ?_ (by rw [H16.out]; exact sz16) (by rw [H16.out]; rfl) ?_
       · exact T2.out))
  refine bodyPost_ret (results_bts2 Try.results21 _ _ _ rfl (T2.out.row y) Try.underlying23 (by rw [H16.out]; exact sz16)) rfl ?_
  exact ⟨rfl, Below.row T3.out (Nat.le_refl _) _⟩
end Go.Proofs.Ytpofndciepoooaa
