/-
  WALKS: octet.Xor and octet.Same; the reference's Bit and Add (ref04).
-/
import Derived.Test.YtmeakfocppooiaaGhT
import Derived.Test.YtmeakfocppooiaaGcP
import Derived.Test.YtmeakfocppooiaaCtF
namespace Go.Proofs.Ytmeakfocppooiaa
open Go.RowKit
set_option linter.unusedVariables false

set_option maxRecDepth 100000 in
set_option maxHeartbeats 2000000 in
theorem xor_any (A B : Option Addr) (n c d : Nat) (la lb : List Nat) (w : World) (ha : IsB w A n c la) (hb : IsB w B n d lb) (hn : n ≤ 281474976710656) :
    Calls Try.prog 148 #[.slice A n c, .slice B n d] w (OutB w (xorL la lb) 0) := by
  have hla := ha.len
  have hlb := hb.len
  have hlx : (xorL la lb).length = n := by rw [xorL_len]; omega
  have hbx := xorL_byt ha.2 hb.2
  have hxa := fun i => xorL_at (a := la) (b := lb) (by omega) i
  have hmk : ∀ W : World, (Instr.makeSlice 28 (.int .i64 (n : Int)) (.int .i64 (n : Int))).run Try.prog W = .ok (.slice (some ⟨W.heap.size, 0, none⟩) n n) (W.alloc (.cells (bts (zeros n)) 5)) := fun W => make_u8 n n (Nat.le_refl _) hn W
  have hne : ((n : Int) != (n : Int)) = false := by simp
  have HA := Lib.hid ha
  have HB := Lib.hid hb
  have HN := Lib.hid hn
  have HLX := Lib.hid hlx
  have HBX := Lib.hid hbx
  have HXA := Lib.hid hxa
  clear ha hb hla hlb hlx hbx hxa
  generalize xorL la lb = z at *
  go_enter Try.func148, Try.ntmps148
  go_wp2_with fail
  have V0 : Hid (Bk (w.alloc (.cells (bts (zeros n)) 5)) w.heap.size 5 (upd (at' z) (zeros n) 0)) := Lib.hid (by rw [upd_zero]; exact Bk.newAt _ _ rfl)
  have V1 : Hid (Below w.heap.size w (w.alloc (.cells (bts (zeros n)) 5))) := Lib.hid ((Below.refl _ _).alloc (Nat.le_refl _) _)
  go_loopw [7, 18] (fun _ j wr => ∃ i : Nat, i ≤ n ∧ j = .int .i64 i ∧ Bk wr w.heap.size 5 (upd (at' z) (zeros n) i) ∧ Below w.heap.size w wr) (fun _ j _ => n - (intOf j).toNat)
  case atStart => exact ⟨0, Nat.zero_le _, rfl, V0.out, V1.out⟩
  case round =>
    obtain ⟨i, hi, rfl, k1, kb⟩ := hrel
    clear V0 V1 hmk
    by_cases hlt : i < n
    · have hii : (i : Int) < (n : Int) := by omega
      have hib : (i : Int) ≤ 281474976710656 := by have := HN.out; omega
      obtain ⟨x, rfl, hxb, hxc⟩ := HA.out.cell (by omega)
      obtain ⟨y, rfl, hyb, hyc⟩ := HB.out.cell (by omega)
      have c1 : wr.cell? (x.add i) = some (.int .u8 (at' la i : Nat)) := (kb.cell (by rw [add_block]; exact hxb)).trans (hxc i hlt)
      have c2 : wr.cell? (y.add i) = some (.int .u8 (at' lb i : Nat)) := (kb.cell (by rw [add_block]; exact hyb)).trans (hyc i hlt)
      have h1 := HA.out.2.at' i
      have h2 := HB.out.2.at' i
      have hz := HXA.out i
      have co := k1.cell (k := i) (by rw [upd_len, zeros_len]; exact hlt)
      have cf := k1.free i
      have hst := k1.set i (at' z i)
      rw [upd_step (at' z) (zeros n) i (by rw [zeros_len]; exact hlt)] at hst
      generalize (upd (at' z) (zeros n) i)[i]?.getD 0 = u at co
      generalize at' la i = p at *
      generalize at' lb i = q at *
      rw [hz] at hst
      have hxo := bits_xor_u8 p q h1 h2
      have N1 := Lib.hid hst
      have N2 := Lib.hid (kb.setCell (p := ⟨w.heap.size, i, none⟩) (Nat.le_refl _) (.int .u8 ((p ^^^ q : Nat) : Int)))
      clear hst k1 kb hz hxc hyc hxb hyb
      go_wp2_with fail
      refine wp_still_tail 12 (by kernel_rfl) (by kernel_rfl) ?_
      simp only [List.take_succ_cons, List.take_zero, List.drop_succ_cons, List.drop_zero]
      repeat still_step
      refine wpStill_nil ?_
      go_wp2_with fail
      go_roundw
      case rel => exact ⟨i + 1, by omega, by go_num, N1.out, N2.out.drew⟩
      case measure => simp [intOf]; omega
    · obtain rfl : i = n := by omega
      have hall := upd_all (at' z) (zeros i)
      rw [zeros_len] at hall
      have e : (List.range i).map (at' z) = z := by
        refine at'_ext (by simp [HLX.out]) fun j hj => ?_
        have hj : j < i := by simpa using hj
        simp [at', hj]
      rw [hall, e] at k1
      have K1 := Lib.hid k1
      have KB := Lib.hid kb
      clear k1 kb hall e
      go_wp2_with fail
      go_ret2
      exact ⟨_, rfl, OwB.ofBk K1.out (Nat.le_refl _) HLX.out (Nat.le_refl _) HLX.out (by have := HN.out; omega) (List.take_of_length_le (by rw [HLX.out]; exact Nat.le_refl _)) HBX.out, KB.out⟩

theorem xor_zero_iff (a b : Nat) : a ^^^ b = 0 ↔ a = b := by
  constructor
  · intro h
    have := xor_cancel a b
    rw [h, Nat.zero_xor] at this
    exact this.symm
  · intro h; rw [h, Nat.xor_self]
def offB (la lb : List Nat) : Nat → Nat
  | 0 => 0
  | i + 1 => offB la lb i ||| (at' la i ^^^ at' lb i)
theorem offB_lt {la lb : List Nat} (ha : Byt la) (hb : Byt lb) (i : Nat) : offB la lb i < 256 := by
  induction i with
  | zero => exact (by decide : 0 < 256)
  | succ i ih => exact Nat.or_lt_two_pow (n := 8) ih (Nat.xor_lt_two_pow (n := 8) (ha.at' i) (hb.at' i))
theorem offB_zero {la lb : List Nat} (n : Nat) : offB la lb n = 0 ↔ ∀ i, i < n → at' la i = at' lb i := by
  induction n with
  | zero => simp [offB]
  | succ n ih =>
    rw [offB, Nat.or_eq_zero_iff, ih, xor_zero_iff]
    constructor
    · intro ⟨h1, h2⟩ i hi
      by_cases e : i = n
      · rw [e]; exact h2
      · exact h1 i (by omega)
    · intro h
      exact ⟨fun i hi => h i (by omega), h n (by omega)⟩
set_option maxRecDepth 100000 in
set_option maxHeartbeats 2000000 in
theorem osame_any (A B : Option Addr) (n c d : Nat) (la lb : List Nat) (w : World) (ha : IsB w A n c la) (hb : IsB w B n d lb) (hn : n ≤ 281474976710656) :
    Calls Try.prog 95 #[.slice A n c, .slice B n d] w fun e w' => e = .returned (.bool (decide (la = lb))) ∧ Below w.heap.size w w' := by
  have hla := ha.len
  have hlb := hb.len
  have hne : ((n : Int) != (n : Int)) = false := by simp
  have hfin : (((offB la lb n : Nat) : Int) == 0) = decide (la = lb) := by
    have h0 := offB_zero (la := la) (lb := lb) n
    by_cases h : la = lb
    · rw [decide_eq_true h, beq_iff_eq]
      have := h0.2 (fun i _ => by rw [h])
      omega
    · rw [decide_eq_false h, beq_eq_false_iff_ne]
      intro e
      exact h (at'_ext (by omega) fun i hi => h0.1 (by omega) i (by omega))
  have HA := Lib.hid ha
  have HB := Lib.hid hb
  have HN := Lib.hid hn
  have HF := Lib.hid hfin
  clear ha hb hla hlb hfin
  go_enter Try.func95, Try.ntmps95
  go_wp2_with fail
  go_loopw [5, 6, 14] (fun v _ j wr => ∃ i : Nat, i ≤ n ∧ j = .int .i64 i ∧ v = .int .u8 (offB la lb i : Nat) ∧ Below w.heap.size w wr) (fun _ _ j _ => n - (intOf j).toNat)
  case atStart => exact ⟨0, Nat.zero_le _, rfl, rfl, Below.refl _ _⟩
  case round =>
    obtain ⟨i, hi, rfl, rfl, kb⟩ := hrel
    by_cases hlt : i < n
    · have hii : (i : Int) < (n : Int) := by omega
      have hib : (i : Int) ≤ 281474976710656 := by have := HN.out; omega
      obtain ⟨x, rfl, hxb, hxc⟩ := HA.out.cell (by omega)
      obtain ⟨y, rfl, hyb, hyc⟩ := HB.out.cell (by omega)
      have c1 : wr.cell? (x.add i) = some (.int .u8 (at' la i : Nat)) := (kb.cell (by rw [add_block]; exact hxb)).trans (hxc i hlt)
      have c2 : wr.cell? (y.add i) = some (.int .u8 (at' lb i : Nat)) := (kb.cell (by rw [add_block]; exact hyb)).trans (hyc i hlt)
      have h1 := HA.out.2.at' i
      have h2 := HB.out.2.at' i
      have h3 := offB_lt HA.out.2 HB.out.2 i
      have hz : offB la lb (i + 1) = offB la lb i ||| (at' la i ^^^ at' lb i) := rfl
      generalize offB la lb i = o at *
      generalize at' la i = p at *
      generalize at' lb i = q at *
      have hxo := bits_xor_u8 p q h1 h2
      have hxl := xor_lt256 h1 h2
      generalize p ^^^ q = pq at *
      have hor := bits_or_u8 o pq h3 hxl
      have HZ := Lib.hid hz
      have KB := Lib.hid kb
      clear kb hz hxc hyc hxb hyb
      go_wp2_with fail
      refine wp_still_tail 11 (by kernel_rfl) (by kernel_rfl) ?_
      simp only [List.take_succ_cons, List.take_zero, List.drop_succ_cons, List.drop_zero]
      repeat still_step
      refine wpStill_nil ?_
      go_wp2_with fail
      go_roundw
      case rel => exact ⟨i + 1, by omega, by go_num, by rw [HZ.out], KB.out.drew⟩
      case measure => simp [intOf]; omega
    · obtain rfl : i = n := by omega
      generalize offB la lb i = o at *
      have KB := Lib.hid kb
      clear kb
      go_wp2_with fail
      go_ret
      exact ⟨by rw [← HF.out]; rfl, KB.out⟩
end Go.Proofs.Ytmeakfocppooiaa
