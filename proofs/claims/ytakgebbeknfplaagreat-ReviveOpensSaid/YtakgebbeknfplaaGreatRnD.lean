/-
  FREE PAGES: the reference's Of, Same, May, Free: walks.
-/
import Derived.Test.YtakgebbeknfplaaGreatRnC
namespace Go.Proofs.YtakgebbeknfplaaGreat
open Go.RowKit
set_option linter.unusedVariables false

set_option maxRecDepth 100000 in
theorem eq_rn (a b : Nat × Nat) (W : World) : (Op.equalIn 10000 134 (.agg #[.int .u32 (a.1 : Int), .int .u32 (a.2 : Int)]) (.agg #[.int .u32 (b.1 : Int), .int .u32 (b.2 : Int)])).run Tryz.prog W = .ok (decide (a = b)) W := by
  obtain ⟨a1, a2⟩ := a
  obtain ⟨b1, b2⟩ := b
  have hd : decide ((a1, a2) = (b1, b2)) = (decide (a1 = b1) && decide (a2 = b2)) := by
    rw [← Bool.decide_and, decide_eq_decide]
    simp
  rw [hd]
  go_simp
  by_cases h1 : a1 = b1
  · by_cases h2 : a2 = b2
    · simp [h1, h2]
    · simp [h1, h2]
      omega
  · simp [h1]
    omega
set_option maxRecDepth 100000 in
set_option maxHeartbeats 4000000 in
theorem sameR_any (A B : Option Addr) (n m c d : Nat) (l k : RnL) (w : World) (ha : RnB w A n c l) (hb : RnB w B m d k) :
    Calls Tryz.prog 48 #[.slice A n c, .slice B m d] w fun e w' => e = .returned (.bool (decide (l = k))) ∧ Below w.heap.size w w' := by
  have hn : (n : Int) ≤ 9223372036854775807 := by have := ha.cap; have := ha.max; unfold maxLen at this; omega
  have HA := Lib.hid ha
  have HB := Lib.hid hb
  by_cases hnm : n = m
  · subst hnm
    have hne : ((n : Int) != (n : Int)) = false := by simp
    clear ha hb
    go_enter Tryz.func48, Tryz.ntmps48
    go_wp2_with fail
    go_loopw [5] (fun z wx => ∃ i : Nat, i ≤ n ∧ z = .int .i64 (i : Int) ∧ l.take i = k.take i ∧ Below w.heap.size w wx) (fun z _ => n - (intOf z).toNat)
    case atStart => exact ⟨0, Nat.zero_le _, rfl, by simp, Below.refl _ _⟩
    case round =>
      obtain ⟨i, hi, rfl, hal, hb⟩ := hrel
      have HX := Lib.hid hb
      have HT := Lib.hid hal
      clear hb hal
      by_cases hlt : i < n
      · obtain ⟨r, hr⟩ : ∃ r, l[i]? = some r := ⟨_, List.getElem?_eq_getElem (by rw [HA.out.len]; exact hlt)⟩
        obtain ⟨q, hq⟩ : ∃ q, k[i]? = some q := ⟨_, List.getElem?_eq_getElem (by rw [HB.out.len]; exact hlt)⟩
        obtain ⟨x, rfl, _, hcel⟩ := HA.out.at hr
        obtain ⟨y, rfl, _, hcel2⟩ := HB.out.at hq
        have hlti : (i : Int) < (n : Int) := by omega
        have HLT := Lib.hid hlt
        obtain ⟨r0, r1⟩ := hcel _ HX.out
        obtain ⟨q0, q1⟩ := hcel2 _ HX.out
        have HTK : Hid (r = q → l.take (i + 1) = k.take (i + 1)) := Lib.hid fun e => by rw [List.take_add_one, List.take_add_one, HT.out, hr, hq, e]
        have HNE : Hid (r ≠ q → l ≠ k) := Lib.hid fun e h => e (by rw [h, hq] at hr; injection hr with hr; exact hr.symm)
        have heq := fun W => eq_rn r q W
        clear hlt hi hr hq hcel hcel2
        by_cases hrq : r = q
        · have hs := Lib.hid (HTK.out hrq)
          rw [decide_eq_true hrq] at heq
          clear hrq
          go_wp2_with fail
          go_quiet (fail)
          go_wp2_with fail
          go_roundw
          case rel => exact ⟨i + 1, HLT.out, by go_num, hs.out, below_dn HX.out _⟩
          case measure => simp [intOf]; have := HLT.out; omega
        · have hs := Lib.hid (HNE.out hrq)
          rw [decide_eq_false hrq] at heq
          clear hrq
          go_wp2_with fail
          go_quiet (fail)
          go_wp2_with fail
          go_ret
          exact ⟨by rw [decide_eq_false hs.out]; rfl, below_dn HX.out _⟩
      · obtain rfl : i = n := by omega
        have hs : Hid (l = k) := Lib.hid (by
          have := HT.out
          rwa [List.take_of_length_le (by rw [HA.out.len]; exact Nat.le_refl _), List.take_of_length_le (by rw [HB.out.len]; exact Nat.le_refl _)] at this)
        clear hlt hi
        go_wp2_with fail
        go_ret
        exact ⟨by rw [decide_eq_true hs.out]; rfl, HX.out⟩
  · have hne : ((n : Int) != (m : Int)) = true := by rw [bne_iff_ne]; omega
    have hs : Hid (l ≠ k) := Lib.hid fun e => hnm (by rw [← ha.len, ← hb.len, e])
    clear ha hb hnm
    go_enter Tryz.func48, Tryz.ntmps48
    go_wp2_with fail
    go_ret
    exact ⟨by rw [decide_eq_false hs.out]; rfl, Below.refl _ _⟩
/-- flags -/
def blsV (f : Nat → Bool) (n : Nat) : Array Value := ((List.range n).map fun i => Value.bool (f i)).toArray
def BoB (w : World) (g n : Nat) (f : Nat → Bool) : Prop := w.heap[g]? = some (.cells (blsV f n) 4 (0, 0))
theorem BoB.cell {w : World} {g n i : Nat} {f : Nat → Bool} (h : BoB w g n f) (hi : i < n) : w.cell? ⟨g, i, none⟩ = some (.bool (f i)) := by
  rw [cell_of_row w g i _ _ (0, 0) h]
  simp [blsV, List.getElem?_range hi]
theorem BoB.lt {w : World} {g n : Nat} {f : Nat → Bool} (h : BoB w g n f) : g < w.heap.size := lt_of_block h
theorem BoB.ab {w w' : World} {g n : Nat} {f : Nat → Bool} (h : BoB w g n f) (hb : Below w.heap.size w w') : BoB w' g n f := (hb.block g h.lt).trans h
theorem BoB.free {w : World} {g n : Nat} {f : Nat → Bool} (h : BoB w g n f) (i : Nat) : w.frozen? ⟨g, i, none⟩ = false := frozen_of_row w g i _ _ h
theorem BoB.set {w : World} {g n i : Nat} {f : Nat → Bool} (h : BoB w g n f) (hi : i < n) : BoB (w.setCell ⟨g, i, none⟩ (.bool true)) g n (fun j => f j || decide (j = i)) := by
  have := heap_setCell_same w g i _ _ (.bool true) h
  unfold BoB
  rw [this]
  congr 2
  apply Array.ext_getElem?
  intro j
  rw [Array.getElem?_setIfInBounds]
  simp only [blsV, List.size_toArray, List.length_map, List.length_range, List.getElem?_toArray, List.getElem?_map]
  by_cases e : i = j
  · subst e
    rw [if_pos rfl, if_pos hi, List.getElem?_range hi]
    simp
  · rw [if_neg e]
    by_cases hj : j < n
    · rw [List.getElem?_range hj]
      have : ¬ j = i := fun e2 => e e2.symm
      simp [this]
    · rw [List.getElem?_eq_none (by simp; omega)]
      rfl
theorem BoB.same {w : World} {g n : Nat} {f h : Nat → Bool} (hf : BoB w g n f) (he : ∀ i, i < n → f i = h i) : BoB w g n h := by
  have : blsV f n = blsV h n := by
    unfold blsV
    congr 1
    exact List.map_congr_left fun i hi => by rw [he i (List.mem_range.1 hi)]
  unfold BoB at hf ⊢
  rwa [← this]
end Go.Proofs.YtakgebbeknfplaaGreat
