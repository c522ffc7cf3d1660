/-
  WALKS: aes.New.
-/
import Derived.Test.YtmeakfocppooiaaAeJ
namespace Go.Proofs.Ytmeakfocppooiaa
open Go.RowKit
set_option linter.unusedVariables false

set_option maxRecDepth 100000 in
theorem words_bad (A : Option Addr) (n c : Nat) (h : n ≠ 16) (h' : n ≠ 32) (w : World) :
    Calls Try.prog 174 #[.slice A n c] w fun e w' => e = .returned (.tuple #[.slice none 0 0, .int .i64 2]) ∧ w = w' := by
  have h1 : ((n : Int) != 16) = true := by simp; omega
  have h2 : ((n : Int) != 32) = true := by simp; omega
  go_enter Try.func174, Try.ntmps174
  go_wp2
  go_ret2
  exact ⟨rfl, rfl⟩
theorem new_bad (A : Option Addr) (n c : Nat) (h : n ≠ 16) (h' : n ≠ 32) (w : World) :
    Calls Try.prog 143 #[.slice A n c] w fun e w' => e = .returned (.tuple #[.pointer none, .int .i64 2]) ∧ w = w' := by
  go_enter Try.func143, Try.ntmps143
  go_wp2_with fail
  refine (words_bad A n c h h' w).mono ?_
  rintro e w' ⟨rfl, rfl⟩
  go_wp2
  go_ret2
  exact ⟨rfl, rfl⟩

/-- a cipher's cells, behind i rounds -/
def cipL (i : Nat) : List Nat := (List.range 512).map fun k => if k < 256 then (if k < i then sbox k else 0) else (if sinv (k - 256) < i then sinv (k - 256) else 0)
def cipC (v : Value) (i : Nat) : Array Value := #[v] ++ bts (cipL i)
theorem cipL_len (i : Nat) : (cipL i).length = 512 := by simp [cipL]
theorem cipL_at (i k : Nat) (h : k < 512) : at' (cipL i) k = if k < 256 then (if k < i then sbox k else 0) else (if sinv (k - 256) < i then sinv (k - 256) else 0) := by
  simp [at', cipL, h]
set_option maxRecDepth 100000 in
theorem cipL_zero : cipL 0 = zeros 512 := by
  show (List.range 512).map _ = List.replicate 512 0
  rw [List.eq_replicate_iff]
  refine ⟨by rw [List.length_map, List.length_range], fun b hb => ?_⟩
  obtain ⟨k, _, rfl⟩ := List.mem_map.1 hb
  split <;> rfl
theorem cipL_step (i : Nat) (hi : i < 256) : ((cipL i).set i (sbox i)).set (256 + sbox i) i = cipL (i + 1) := by
  apply List.ext_getElem (by simp [cipL])
  intro k h1 h2
  have hk : k < 512 := by rw [cipL_len] at h2; exact h2
  have e : ∀ j (h : k < (cipL j).length), (cipL j)[k] = at' (cipL j) k := fun j h => by simp [at', List.getElem?_eq_getElem h]
  have hs := sbox_lt i hi
  rw [List.getElem_set, List.getElem_set]
  rw [e (i + 1) h2, e i (by rw [cipL_len]; exact hk), cipL_at _ _ hk, cipL_at _ _ hk]
  by_cases h1 : 256 + sbox i = k
  · rw [if_pos h1, if_neg (by omega), show k - 256 = sbox i from by omega, sinv_sbox i hi, if_pos (by omega)]
  · rw [if_neg h1]
    by_cases h2 : i = k
    · subst h2
      rw [if_pos rfl, if_pos hi, if_pos (by omega)]
    · rw [if_neg h2]
      by_cases h3 : k < 256
      · rw [if_pos h3, if_pos h3]
        have : (k < i + 1) ↔ k < i := by omega
        simp [this]
      · rw [if_neg h3, if_neg h3]
        have hne : sinv (k - 256) ≠ i := by
          intro e
          have := sbox_sinv (k - 256) (by omega)
          rw [e] at this
          omega
        have : (sinv (k - 256) < i + 1) ↔ sinv (k - 256) < i := by omega
        simp [this]
theorem cipZ (v : Value) : Try.zeroCells262.setIfInBounds 0 v = cipC v 0 := by
  have h : Try.zeroCells262 = #[Value.slice none 0 0] ++ bts (zeros 512) := by kernel_rfl
  rw [h, cipC, cipL_zero]
  apply Array.ext
  · simp
  · intro i h1 h2
    rw [Array.getElem_setIfInBounds (by simpa using h2)]
    by_cases h0 : 0 = i
    · subst h0
      simp
    · rw [if_neg h0, Array.getElem_append_right (by simp; omega), Array.getElem_append_right (by simp; omega)]
      simp
theorem cipC_get (v : Value) (i k : Nat) (hk : k < 512) : (cipC v i)[k + 1]? = some (.int .u8 (at' (cipL i) k : Nat)) := by
  have := bts_get (cipL i) k (by rw [cipL_len]; exact hk)
  rw [cipC, Array.getElem?_append_right (by simp)]
  simpa [at'] using this
theorem cipC_zero (v : Value) (i : Nat) : (cipC v i)[0]? = some v := by
  rw [cipC, Array.getElem?_append_left (by simp)]
  rfl
theorem cipC_set (v : Value) (l : List Nat) (k x : Nat) : (#[v] ++ bts l).setIfInBounds (k + 1) (.int .u8 (x : Int)) = #[v] ++ bts (l.set k x) := by
  apply Array.toList_inj.1
  simp [bts, List.map_set]
/-- a cipher in memory -/
structure Cip (w : World) (g : Nat) (v : Value) (i : Nat) : Prop where
  row : w.heap[g]? = some (.cells (cipC v i) 262 (0, 0))
theorem Cip.lt {w : World} {g : Nat} {v : Value} {i : Nat} (h : Cip w g v i) : g < w.heap.size := lt_of_block h.row
theorem Cip.cell {w : World} {g : Nat} {v : Value} {i : Nat} (h : Cip w g v i) {k : Nat} (hk : k < 512) : w.cell? ⟨g, k + 1, none⟩ = some (.int .u8 (at' (cipL i) k : Nat)) := by
  rw [cell_of_row w g (k + 1) _ _ (0, 0) h.row, cipC_get v i k hk]
theorem Cip.head {w : World} {g : Nat} {v : Value} {i : Nat} (h : Cip w g v i) : w.cell? ⟨g, 0, none⟩ = some v := by
  rw [cell_of_row w g 0 _ _ (0, 0) h.row, cipC_zero]
theorem Cip.free {w : World} {g : Nat} {v : Value} {i : Nat} (h : Cip w g v i) (k : Nat) : w.frozen? ⟨g, k, none⟩ = false := frozen_of_row w g k _ _ h.row
theorem Cip.below {w w' : World} {g B : Nat} {v : Value} {i : Nat} (h : Cip w g v i) (hb : Below B w w') (hB : g < B) : Cip w' g v i := ⟨(hb.block g hB).trans h.row⟩
theorem Cip.drewN {w : World} {g : Nat} {v : Value} {i : Nat} (h : Cip w g v i) (m : Nat) : Cip (w.drewN m) g v i := ⟨h.row⟩
theorem Cip.step {w : World} {g : Nat} {v : Value} {i : Nat} (h : Cip w g v i) (hi : i < 256) {s : Nat} (hs : sbox i = s) :
    Cip ((w.setCell ⟨g, 1 + i, none⟩ (.int .u8 (s : Int))).setCell ⟨g, 257 + s, none⟩ (.int .u8 (i : Int))) g v (i + 1) := by
  subst hs
  have h1 := heap_setCell_same w g (i + 1) _ _ (.int .u8 ((sbox i : Nat) : Int)) h.row
  rw [cipC, cipC_set] at h1
  have h2 := heap_setCell_same _ g (256 + sbox i + 1) _ _ (.int .u8 (i : Int)) h1
  rw [cipC_set, cipL_step i hi] at h2
  rw [show 257 + sbox i = 256 + sbox i + 1 from by omega, Nat.add_comm 1 i]
  exact ⟨h2⟩
theorem Cip.tabs {w : World} {g : Nat} {v : Value} (h : Cip w g v 256) : TabAt w g 1 sbox ∧ TabAt w g 257 sinv := by
  refine ⟨⟨h.lt, fun x hx => ?_⟩, ⟨h.lt, fun x hx => ?_⟩⟩
  · rw [Nat.add_comm, h.cell (by omega), cipL_at _ _ (by omega), if_pos hx, if_pos hx]
  · rw [show 257 + x = 256 + x + 1 from by omega, h.cell (by omega), cipL_at _ _ (by omega), if_neg (by omega), show 256 + x - 256 = x from by omega, if_pos (sinv_lt x hx)]

set_option maxRecDepth 100000 in
set_option maxHeartbeats 1000000 in
theorem new4_any (l : List Nat) (A : Option Addr) (c : Nat) (w : World) (hin : IsB w A 16 c l) :
    Calls Try.prog 143 #[.slice A 16 c] w fun e w' => ∃ b g, e = .returned (.tuple #[.pointer (some ⟨g, 0, none⟩), .int .i64 0]) ∧ b < g ∧ w.heap.size ≤ b ∧ Bk w' b 244 (wordsAll 4 l) ∧ Cip w' g (.slice (some ⟨b, 0, none⟩) 44 44) 256 ∧ Below w.heap.size w w' := by
  go_enter Try.func143, Try.ntmps143
  go_wp2_with fail
  refine (words4_any l A c w hin).mono ?_
  rintro e w1 ⟨rfl, hW, hb⟩
  have hbig := hW.lt
  have HW := Lib.hid hW
  have HB := Lib.hid hb
  clear hW hb
  go_upto_region 5 with fail
  rw [cipZ]
  have hcip : Cip (w1.alloc (.cells (cipC (Value.slice (some ⟨w.heap.size, 0, none⟩) 44 44) 0) 262)) w1.heap.size (Value.slice (some ⟨w.heap.size, 0, none⟩) 44 44) 0 := ⟨heap_alloc_new w1 _⟩
  have hbl : Below w1.heap.size w1 (w1.alloc (.cells (cipC (Value.slice (some ⟨w.heap.size, 0, none⟩) 44 44) 0) 262)) := (Below.refl _ _).alloc (Nat.le_refl _) _
  have HC := Lib.hid hcip
  have HBL := Lib.hid hbl
  clear hcip hbl
  generalize cipC (Value.slice (some ⟨w.heap.size, 0, none⟩) 44 44) 0 = cells at HC HBL ⊢
  go_wp2_with fail
  go_loopw [20] (fun j wr => ∃ i : Nat, i ≤ 256 ∧ j = .int .i64 i ∧ Cip wr w1.heap.size (Value.slice (some ⟨w.heap.size, 0, none⟩) 44 44) i ∧ Below w1.heap.size w1 wr) (fun j _ => 256 - (intOf j).toNat)
  case atStart => exact ⟨0, by omega, rfl, HC.out, HBL.out⟩
  case round =>
    obtain ⟨i, hi, rfl, ho, hbr⟩ := hrel
    clear HC HBL
    by_cases hlt : i < 256
    · have hlti : (i : Int) < 256 := by omega
      have hu8 : IntKind.u8.wrap (i : Int) = (i : Int) := by show (i : Int) % 256 = (i : Int); omega
      obtain ⟨s, hs⟩ : ∃ s, sbox i = s := ⟨_, rfl⟩
      have hsb : s < 256 := hs ▸ sbox_lt i hlt
      have HS := Lib.hid hs
      have c1 := ho.cell (k := i) (by omega)
      rw [Nat.add_comm] at c1
      have c2 : ∀ x, x < 256 → wr.cell? ⟨w1.heap.size, 257 + s, none⟩ = some (.int .u8 (at' (cipL i) (256 + s) : Nat)) := fun x hx => by
        rw [show 257 + s = (256 + s) + 1 from by omega]
        exact ho.cell (k := 256 + s) (by omega)
      have c2 := c2 0 (by omega)
      have f1 := ho.free (1 + i)
      have f2 := ho.free (257 + s)
      have HO := Lib.hid ho
      have HBR := Lib.hid hbr
      generalize at' (cipL i) i = y1 at c1
      generalize at' (cipL i) (256 + s) = y2 at c2
      clear hbr ho hs
      go_wp2_with fail
      refine (sub_at i hlt HS _).mono ?_
      rintro e w' ⟨rfl, m, rfl⟩
      have HST := Lib.hid ((HO.out.drewN m).step hlt HS.out)
      go_wp2
      go_roundw
      case rel => exact ⟨i + 1, by omega, by go_num, HST.out, ((below_dn HBR.out m).setCell (Nat.le_refl _) _).setCell (Nat.le_refl _) _⟩
      case measure => simp [intOf]; omega
    · obtain rfl : i = 256 := by omega
      have HO := Lib.hid ho
      have HBR := Lib.hid hbr
      clear ho hbr
      go_wp2
      go_ret2
      exact ⟨w.heap.size, w1.heap.size, rfl, hbig, Nat.le_refl _, Bk.below HW.out HBR.out hbig, HO.out, HB.out.trans (HBR.out.mono (Nat.le_of_lt hbig))⟩

set_option maxRecDepth 100000 in
set_option maxHeartbeats 1000000 in
theorem new8_any (l : List Nat) (A : Option Addr) (c : Nat) (w : World) (hin : IsB w A 32 c l) :
    Calls Try.prog 143 #[.slice A 32 c] w fun e w' => ∃ b g, e = .returned (.tuple #[.pointer (some ⟨g, 0, none⟩), .int .i64 0]) ∧ b < g ∧ w.heap.size ≤ b ∧ Bk w' b 244 (wordsAll 8 l) ∧ Cip w' g (.slice (some ⟨b, 0, none⟩) 60 60) 256 ∧ Below w.heap.size w w' := by
  go_enter Try.func143, Try.ntmps143
  go_wp2_with fail
  refine (words8_any l A c w hin).mono ?_
  rintro e w1 ⟨rfl, hW, hb⟩
  have hbig := hW.lt
  have HW := Lib.hid hW
  have HB := Lib.hid hb
  clear hW hb
  go_upto_region 5 with fail
  rw [cipZ]
  have hcip : Cip (w1.alloc (.cells (cipC (Value.slice (some ⟨w.heap.size, 0, none⟩) 60 60) 0) 262)) w1.heap.size (Value.slice (some ⟨w.heap.size, 0, none⟩) 60 60) 0 := ⟨heap_alloc_new w1 _⟩
  have hbl : Below w1.heap.size w1 (w1.alloc (.cells (cipC (Value.slice (some ⟨w.heap.size, 0, none⟩) 60 60) 0) 262)) := (Below.refl _ _).alloc (Nat.le_refl _) _
  have HC := Lib.hid hcip
  have HBL := Lib.hid hbl
  clear hcip hbl
  generalize cipC (Value.slice (some ⟨w.heap.size, 0, none⟩) 60 60) 0 = cells at HC HBL ⊢
  go_wp2_with fail
  go_loopw [20] (fun j wr => ∃ i : Nat, i ≤ 256 ∧ j = .int .i64 i ∧ Cip wr w1.heap.size (Value.slice (some ⟨w.heap.size, 0, none⟩) 60 60) i ∧ Below w1.heap.size w1 wr) (fun j _ => 256 - (intOf j).toNat)
  case atStart => exact ⟨0, by omega, rfl, HC.out, HBL.out⟩
  case round =>
    obtain ⟨i, hi, rfl, ho, hbr⟩ := hrel
    clear HC HBL
    by_cases hlt : i < 256
    · have hlti : (i : Int) < 256 := by omega
      have hu8 : IntKind.u8.wrap (i : Int) = (i : Int) := by show (i : Int) % 256 = (i : Int); omega
      obtain ⟨s, hs⟩ : ∃ s, sbox i = s := ⟨_, rfl⟩
      have hsb : s < 256 := hs ▸ sbox_lt i hlt
      have HS := Lib.hid hs
      have c1 := ho.cell (k := i) (by omega)
      rw [Nat.add_comm] at c1
      have c2 : ∀ x, x < 256 → wr.cell? ⟨w1.heap.size, 257 + s, none⟩ = some (.int .u8 (at' (cipL i) (256 + s) : Nat)) := fun x hx => by
        rw [show 257 + s = (256 + s) + 1 from by omega]
        exact ho.cell (k := 256 + s) (by omega)
      have c2 := c2 0 (by omega)
      have f1 := ho.free (1 + i)
      have f2 := ho.free (257 + s)
      have HO := Lib.hid ho
      have HBR := Lib.hid hbr
      generalize at' (cipL i) i = y1 at c1
      generalize at' (cipL i) (256 + s) = y2 at c2
      clear hbr ho hs
      go_wp2_with fail
      refine (sub_at i hlt HS _).mono ?_
      rintro e w' ⟨rfl, m, rfl⟩
      have HST := Lib.hid ((HO.out.drewN m).step hlt HS.out)
      go_wp2
      go_roundw
      case rel => exact ⟨i + 1, by omega, by go_num, HST.out, ((below_dn HBR.out m).setCell (Nat.le_refl _) _).setCell (Nat.le_refl _) _⟩
      case measure => simp [intOf]; omega
    · obtain rfl : i = 256 := by omega
      have HO := Lib.hid ho
      have HBR := Lib.hid hbr
      clear ho hbr
      go_wp2
      go_ret2
      exact ⟨w.heap.size, w1.heap.size, rfl, hbig, Nat.le_refl _, Bk.below HW.out HBR.out hbig, HO.out, HB.out.trans (HBR.out.mono (Nat.le_of_lt hbig))⟩

end Go.Proofs.Ytmeakfocppooiaa
