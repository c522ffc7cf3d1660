/-
  WALKS: the reference's Copy and Same (ref01), whatever bytes.
-/
import Derived.Test.YtpofndciepoooaaAeX
import Derived.Test.YtpofndciepoooaaQtT
import Derived.Laws.BytesArg
import Derived.Laws.MakeOwn
namespace Go.Proofs.Ytpofndciepoooaa
open Go.RowKit
set_option linter.unusedVariables false

def zeros (n : Nat) : List Nat := List.replicate n 0
theorem zeros_len (n : Nat) : (zeros n).length = n := by simp [zeros]
def strOf (l : List Nat) : ByteArray := ⟨(l.map UInt8.ofNat).toArray⟩
theorem strOf_inj {a b : List Nat} (ha : Byt a) (hb : Byt b) : strOf a = strOf b ↔ a = b := by
  refine ⟨fun h => ?_, fun h => by rw [h]⟩
  have h1 : a.map UInt8.ofNat = b.map UInt8.ofNat := by
    have := congrArg (fun s : ByteArray => s.data.toList) h
    simpa [strOf] using this
  clear h
  induction a generalizing b with
  | nil => cases b with
    | nil => rfl
    | cons y ys => simp at h1
  | cons x xs ih =>
    cases b with
    | nil => simp at h1
    | cons y ys =>
      simp only [List.map_cons, List.cons.injEq] at h1
      have hx := ha x (by simp)
      have hy := hb y (by simp)
      have e : x = y := by
        have := congrArg UInt8.toNat h1.1
        simp at this
        omega
      rw [e, ih (fun z hz => ha z (by simp [hz])) (fun z hz => hb z (by simp [hz])) h1.2]
section
variable {P : Program}
theorem run_str {w : World} {A : Option Addr} {n c : Nat} {l : List Nat} (h : IsB w A n c l) (src e dst : TypeId) (hs : P.underlying src = some (.slice e)) (he : P.underlying e = some (.int .u8)) (hd : P.underlying dst = some .string) :
    (convert src dst (.slice A n c)).run P w = .ok (.string (strOf l)) w := by
  rw [run_convert_bytes_string w src dst e _ n c hs he hd]
  have hl := h.len
  by_cases h0 : A = none
  · subst h0
    have : n = 0 := by
      by_cases hn : 0 < n
      · obtain ⟨x, e, _⟩ := h.cell hn
        cases e
      · omega
    subst this
    obtain rfl : l = [] := List.eq_nil_of_length_eq_zero hl
    simp [Conv.bytesToString, strOf, ByteArray.empty, ByteArray.emptyWithCapacity]
    rfl
  · obtain ⟨x, rfl⟩ : ∃ x, A = some x := by cases A with
      | none => exact absurd rfl h0
      | some x => exact ⟨x, rfl⟩
    have hlc : (loadCells x n).run P w = .ok ((l.map fun m : Nat => (m : Int)).map (Value.int .u8)).toArray w := by
      have := run_loadCells_list (P := P) w x ((l.map fun m : Nat => (m : Int)).map (Value.int .u8)) (fun j v hj => by
        have hjl : j < n := by
          rcases Nat.lt_or_ge j n with h' | h'
          · exact h'
          · rw [List.getElem?_eq_none (by simp; omega)] at hj; cases hj
        obtain ⟨y, e, _, hy⟩ := h.cell (by omega)
        injection e with e
        rw [e, hy j hjl]
        simp only [List.getElem?_map, List.getElem?_eq_getElem (show j < l.length by omega), Option.map_some] at hj
        simpa [at', List.getElem?_eq_getElem (show j < l.length by omega)] using hj)
      simpa [hl] using this
    rw [run_bytesToString w x n c _ hlc, foldl_push_bytes]
    simp [strOf, ByteArray.empty, ByteArray.emptyWithCapacity, Function.comp_def]
    rfl
end

theorem same_any (A B : Option Addr) (n m c d : Nat) (la lb : List Nat) (w : World) (ha : IsB w A n c la) (hb : IsB w B m d lb) :
    Calls Try.prog 28 #[.slice A n c, .slice B m d] w fun e w' => e = .returned (.bool (decide (la = lb))) ∧ w = w' := by
  have h1 : (convert 22 9 (.slice A n c)).run Try.prog w = .ok (.string (strOf la)) w := run_str ha _ _ _ Try.underlying22 Try.underlying5 Try.underlying9
  have h2 : (convert 22 9 (.slice B m d)).run Try.prog w = .ok (.string (strOf lb)) w := run_str hb _ _ _ Try.underlying22 Try.underlying5 Try.underlying9
  have hi := strOf_inj ha.2 hb.2
  have HI := Lib.hid hi
  clear ha hb hi
  go_enter Try.func28, Try.ntmps28
  go_wp2
  go_ret
  refine ⟨?_, rfl⟩
  have e : ((strOf la).toList == (strOf lb).toList) = decide (la = lb) := by
    rw [← beq_toListBytes, show (strOf la == strOf lb) = ((strOf la).data == (strOf lb).data) from rfl]
    by_cases h : la = lb
    · rw [decide_eq_true h, beq_iff_eq, h]
    · rw [decide_eq_false h, beq_eq_false_iff_ne]
      exact fun e => h (HI.out.1 (ByteArray.ext e))
  rw [e]
  rfl

theorem made_u8 (n : Nat) : madeCells #[Value.int .u8 0] n = bts (zeros n) := by
  apply Array.ext
  · simp [madeCells, bts, zeros]
  · intro i h1 h2
    simp [madeCells, bts, zeros, Nat.mod_one]
theorem infoU8 : (Try.prog.info? 5).map (fun i => (i.zero, i.size, i.bytes)) = some (some (.int .u8 0), 1, 1) := by kernel_rfl
theorem make_u8 (n c : Nat) (h : n ≤ c) (hc : c ≤ 281474976710656) (W : World) :
    (Instr.makeSlice 22 (.int .i64 (n : Int)) (.int .i64 (c : Int))).run Try.prog W = .ok (.slice (some ⟨W.heap.size, 0, none⟩) n c) (W.alloc (.cells (bts (zeros c)) 5)) := by
  obtain ⟨i0, hi0, h0, h1, h2⟩ := info_parts infoU8
  have := run_make (P := Try.prog) W 22 5 i0 _ Try.underlying22 hi0 h0 .i64 .i64 n c (by omega) (by omega) (by rw [h2]; omega) (by omega)
  rw [this, h1]
  simp only [Int.toNat_natCast, Nat.mul_one]
  rw [← made_u8]
  rfl
/-- a block of bytes, read as a slice from its head on -/
theorem Bk.isB {w : World} {g : Nat} {t : TypeId} {l : List Nat} (h : Bk w g t l) (hb : Byt l) (n c : Nat) (hn : n ≤ l.length) (hc : n ≤ c) (hm : c ≤ 9223372036854775807) : IsB w (some ⟨g, 0, none⟩) n c (l.take n) := by
  refine ⟨⟨by simp; omega, hc, hm, ?_, .inr ⟨_, rfl, fun _ => h.lt, fun i hi => ?_⟩⟩, fun x hx => hb x (List.mem_of_mem_take hx)⟩
  · intro z hz
    obtain ⟨x, hx, rfl⟩ := List.mem_map.1 hz
    have := hb x (List.mem_of_mem_take hx)
    simp only [Lit.wf, Bool.and_eq_true, decide_eq_true_eq]
    have e1 : IntKind.u8.min = 0 := rfl
    have e2 : IntKind.u8.max = 255 := rfl
    omega
  · have e1 : (Addr.mk g 0 none).add i = ⟨g, i, none⟩ := by rw [Addr.add_mid, Nat.zero_add]
    rw [e1, h.cell (by omega)]
    simp [List.getD, hi, List.getElem?_eq_getElem (show i < l.length by omega)]

set_option maxRecDepth 100000 in
set_option maxHeartbeats 1000000 in
theorem copy_any (A : Option Addr) (n c : Nat) (l : List Nat) (w : World) (h : IsB w A n c l) (hn : n + 3 ≤ 281474976710656) :
    Calls Try.prog 22 #[.slice A n c] w fun e w' => e = .returned (.slice (some ⟨w.heap.size, 0, none⟩) n (n + 3)) ∧ Bk w' w.heap.size 5 (l ++ zeros 3) ∧ Below w.heap.size w w' := by
  have hmk : ∀ W : World, (Instr.makeSlice 22 (.int .i64 (n : Int)) (.int .i64 ((n : Int) + 3))).run Try.prog W = .ok (.slice (some ⟨W.heap.size, 0, none⟩) n (n + 3)) (W.alloc (.cells (bts (zeros (n + 3))) 5)) := fun W => by
    have := make_u8 n (n + 3) (by omega) hn W
    rwa [show ((n + 3 : Nat) : Int) = (n : Int) + 3 from by omega] at this
  have hb : Bk (w.alloc (.cells (bts (zeros (n + 3))) 5)) w.heap.size 5 (zeros (n + 3)) := Bk.new _ _ _
  have hl := h.len
  have hsrc := h.1.alloc (.cells (bts (zeros (n + 3))) 5)
  have hcp : ∃ W2, (Builtin.copy_ #[22, 22] 3 #[.slice (some ⟨w.heap.size, 0, none⟩) n (n + 3), .slice A n c]).run Try.prog (w.alloc (.cells (bts (zeros (n + 3))) 5)) = .ok (goInt n) W2 ∧ Bk W2 w.heap.size 5 (l ++ zeros 3) ∧ Below w.heap.size w W2 := by
    have hbl : Below w.heap.size w (w.alloc (.cells (bts (zeros (n + 3))) 5)) := (Below.refl _ _).alloc (Nat.le_refl _) _
    by_cases hn0 : n = 0
    · subst hn0
      obtain rfl : l = [] := List.eq_nil_of_length_eq_zero hl
      exact ⟨_, run_copy_none _ _ _ _ 5 _ _ _ _ _ _ Try.underlying22 szByte (by simp), hb, hbl⟩
    · obtain ⟨x, rfl, _, hx⟩ := (show IsB (w.alloc (.cells (bts (zeros (n + 3))) 5)) A n c l from ⟨hsrc, h.2⟩).cell (by omega)
      have hr := run_copy_row (P := Try.prog) (w.alloc (.cells (bts (zeros (n + 3))) 5)) 22 22 3 5 w.heap.size 0 n (n + 3) x n c (bts (zeros (n + 3))) 5 (l.map (fun n : Nat => Value.int .u8 (n : Int))) Try.underlying22 szByte hb (by rw [List.length_map, hl]; exact (Nat.min_self n).symm)
        (fun j v hv => by
          rw [List.getElem?_map] at hv
          have hj : j < n := by
            by_cases h' : j < n
            · exact h'
            · rw [List.getElem?_eq_none (by omega)] at hv; simp at hv
          rw [hx j hj]
          rw [List.getElem?_eq_getElem (by omega)] at hv
          simp only [at', List.getElem?_eq_getElem (show j < l.length by omega)]
          simpa using hv)
        (by rw [List.length_map, bts_size, zeros_len, hl]; omega) (by simp [Value.oneCell'])
      rw [List.length_map, hl] at hr
      refine ⟨_, hr, ?_, Below.row hbl (Nat.le_refl _) _⟩
      have e : ((bts (zeros (n + 3))).toList.take 0 ++ (l.map (fun n : Nat => Value.int .u8 (n : Int)) ++ (bts (zeros (n + 3))).toList.drop (0 + n))).toArray = bts (l ++ zeros 3) := by
        rw [bts_splice]
        simp [zeros]
      rw [List.append_assoc, e]
      exact hb.row _
  obtain ⟨W2, hcp, h2, h3⟩ := hcp
  have H2 := Lib.hid h2
  have H3 := Lib.hid h3
  have hni : (n : Int) + 3 ≤ 281474976710656 := by omega
  clear h hb hl hsrc h2 h3
  go_enter Try.func22, Try.ntmps22
  go_wp2
  go_ret
  exact ⟨rfl, H2.out, H3.out⟩

end Go.Proofs.Ytpofndciepoooaa
