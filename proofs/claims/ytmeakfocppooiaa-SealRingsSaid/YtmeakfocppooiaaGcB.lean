/-
  WALKS: the reference's Bit, Add and Full (ref04).
-/
import Derived.Test.YtmeakfocppooiaaGcA
import Derived.Test.YtmeakfocppooiaaCtG
namespace Go.Proofs.Ytmeakfocppooiaa
open Go.RowKit
set_option linter.unusedVariables false

set_option maxRecDepth 100000 in
set_option maxHeartbeats 1000000 in
theorem bit4_any (y : List Nat) (hy : Byt y) (ly : y.length = 16) (i : Nat) (hi : i < 128) (w : World) :
    Calls Try.prog 190 #[.agg (bts y), .int .i64 (i : Int)] w fun e w' => e = .returned (.int .i64 (bitB y i : Nat)) ∧ Below w.heap.size w w' := by
  obtain ⟨k, hk⟩ : ∃ k, k = i / 8 := ⟨_, rfl⟩
  obtain ⟨r, hr⟩ : ∃ r, r = i % 8 := ⟨_, rfl⟩
  have hk16 : k < 16 := by omega
  have hr8 : r < 8 := by omega
  have hb : bitB y i = at' y k / 2 ^ (7 - r) % 2 := by rw [hk, hr]; rfl
  have c1 : (bts y)[k]? = some (.int .u8 (at' y k : Nat)) := bts_get y k (by omega)
  have hv := hy.at' k
  have q1 : (i : Int) / 8 = (k : Int) := by omega
  have q2 : (i : Int) % 8 = (r : Int) := by omega
  have q3 : (i : Int).tdiv 8 = (k : Int) := by rw [Int.tdiv_eq_ediv_of_nonneg (by omega)]; exact q1
  have q4 : (i : Int).tmod 8 = (r : Int) := by rw [Int.tmod_eq_emod_of_nonneg (by omega)]; exact q2
  have hki : (k : Int) < 16 := by omega
  have hri : (r : Int) < 8 := by omega
  have t1 : (7 - (r : Int)).toNat = 7 - r := by omega
  generalize at' y k = v at *
  have hdv : (v : Int) / 2 ^ (7 - r) = ((v / 2 ^ (7 - r) : Nat) : Int) := by simp
  have hdl : v / 2 ^ (7 - r) ≤ v := Nat.div_le_self _ _
  generalize v / 2 ^ (7 - r) = dv at *
  have HB := Lib.hid hb
  clear hb hk hr hy ly
  go_enter Try.func190, Try.ntmps190
  go_wp2_with fail
  go_ret
  exact ⟨by rw [HB.out]; rfl, (Below.refl _ _).alloc (Nat.le_refl _) _⟩

set_option maxRecDepth 100000 in
set_option maxHeartbeats 2000000 in
theorem add4_any (x y : List Nat) (hx : Byt x) (lx : x.length = 16) (hy : Byt y) (ly : y.length = 16) (w : World) :
    Calls Try.prog 124 #[.agg (bts x), .agg (bts y)] w fun e w' => e = .returned (.agg (bts (xorL x y))) ∧ Below w.heap.size w w' := by
  have hlx : (xorL x y).length = 16 := by rw [xorL_len]; omega
  have hxa := fun i => xorL_at (a := x) (b := y) (by omega) i
  have hall : upd (at' (xorL x y)) x 16 = xorL x y := by
    refine at'_ext (by rw [upd_len]; omega) fun i hi => ?_
    rw [upd_len] at hi
    show (upd (at' (xorL x y)) x 16)[i]?.getD 0 = _
    rw [upd_get _ _ _ _ hi, if_pos (by omega)]
  generalize xorL x y = z at *
  have LX := Lib.hid lx
  have LY := Lib.hid ly
  have LZ := Lib.hid hlx
  have HXA := Lib.hid hxa
  have HALL := Lib.hid hall
  have S1 : Hid (Bk (((w.alloc (.cells (bts x) 205)).alloc (.cells (bts y) 205)).alloc (.cells (bts z16) 205)) w.heap.size 205 (upd (at' z) x 0)) := Lib.hid (by rw [upd_zero]; exact ((Bk.newAt _ x rfl).alloc _).alloc _)
  have S2 : Hid (Bk (((w.alloc (.cells (bts x) 205)).alloc (.cells (bts y) 205)).alloc (.cells (bts z16) 205)) (w.heap.size + 1) 205 y) := Lib.hid ((Bk.newAt _ y (by simp)).alloc _)
  have S3 : Hid (Bk (((w.alloc (.cells (bts x) 205)).alloc (.cells (bts y) 205)).alloc (.cells (bts z16) 205)) (w.heap.size + 1 + 1) 205 z16) := Lib.hid (Bk.newAt _ z16 (by simp))
  have S4 : Hid (Below w.heap.size w (((w.alloc (.cells (bts x) 205)).alloc (.cells (bts y) 205)).alloc (.cells (bts z16) 205))) := Lib.hid ((((Below.refl _ _).alloc (Nat.le_refl _) _).alloc (Nat.le_of_lt (by simp)) _).alloc (by simp; omega) _)
  clear lx ly hlx hxa hall
  go_enter Try.func124, Try.ntmps124
  go_wp2_with fail
  go_loopw [5] (fun j wr => ∃ i : Nat, i ≤ 16 ∧ j = .int .i64 i ∧ Bk wr w.heap.size 205 (upd (at' z) x i) ∧ Bk wr (w.heap.size + 1) 205 y ∧ Bk wr (w.heap.size + 1 + 1) 205 z16 ∧ Below w.heap.size w wr) (fun j _ => 16 - (intOf j).toNat)
  case atStart => exact ⟨0, Nat.zero_le _, rfl, S1.out, S2.out, S3.out, S4.out⟩
  case round =>
    obtain ⟨i, hi, rfl, k1, k2, k3, kb⟩ := hrel
    clear S1 S2 S3 S4
    by_cases hlt : i < 16
    · have hii : (i : Int) < 16 := by omega
      have c1 := k1.cell (k := i) (by rw [upd_len, LX.out]; exact hlt)
      have e1 : (upd (at' z) x i)[i]?.getD 0 = at' x i := by rw [upd_get _ _ _ _ (by rw [LX.out]; exact hlt), if_neg (by omega)]; rfl
      rw [e1] at c1
      have c2 := k2.cell (k := i) (by rw [LY.out]; exact hlt)
      rw [show y[i]?.getD 0 = at' y i from rfl] at c2
      have f1 := k1.free i
      have h1 := hx.at' i
      have h2 := hy.at' i
      have hz := HXA.out i
      have hst := k1.set i (at' z i)
      rw [upd_step (at' z) x i (by rw [LX.out]; exact hlt)] at hst
      generalize at' x i = p at *
      generalize at' y i = q at *
      rw [hz] at hst
      have hxo := bits_xor_u8 p q h1 h2
      have N1 := Lib.hid hst
      have N2 := Lib.hid (k2.far (c := w.heap.size) (k := i) (by omega) (.int .u8 ((p ^^^ q : Nat) : Int)))
      have N3 := Lib.hid (k3.far (c := w.heap.size) (k := i) (by omega) (.int .u8 ((p ^^^ q : Nat) : Int)))
      have N4 := Lib.hid (kb.setCell (p := ⟨w.heap.size, i, none⟩) (Nat.le_refl _) (.int .u8 ((p ^^^ q : Nat) : Int)))
      clear hst k1 k2 k3 kb hz e1
      go_wp2_with fail
      refine wp_still_tail 9 (by kernel_rfl) (by kernel_rfl) ?_
      simp only [List.take_succ_cons, List.take_zero, List.drop_succ_cons, List.drop_zero]
      repeat still_step
      refine wpStill_nil ?_
      go_wp2_with fail
      go_roundw
      case rel => exact ⟨i + 1, by omega, by go_num, N1.out, N2.out, N3.out, N4.out.drew⟩
      case measure => simp [intOf]; omega
    · obtain rfl : i = 16 := by omega
      rw [HALL.out] at k1
      have T1 := Lib.hid k1
      have T2 := Lib.hid k3
      have T3 := Lib.hid kb
      clear k1 k2 k3 kb
      go_wp2_with (refine wpList_loadB (l := z) (o := ⟨some 19, _, _, _, _, _⟩) rfl 205 (.tmp 2) rfl w.heap.size rfl (t := 205) ?_ Try.underlying205 (by rw [LZ.out]; exact sz16) ?_
                   · exact T1.out
                   refine wpList_storeB (l := z16) (o := ⟨none, .store _ (.tmp 4) (.tmp 19), _, _, _, _⟩) rfl 205 (.tmp 4) (.tmp 19) rfl (w.heap.size + 1 + 1) rfl z rfl (t := 205) ?_ (by rw [LZ.out]; exact sz16) (by rw [LZ.out]; rfl) ?_
                   · exact T2.out)
      refine bodyPost_ret (results_bts Try.results124 _ _ _ rfl (T2.out.row z) Try.underlying205 (by rw [LZ.out]; exact sz16)) rfl ?_
      exact ⟨rfl, Below.row T3.out (by omega) _⟩

def lenV : Value → Nat
  | .slice _ n _ => n
  | _ => 0
theorem zeros_succ (k : Nat) : zeros (k + 1) = zeros k ++ [0] := List.replicate_succ'
set_option maxRecDepth 100000 in
set_option maxHeartbeats 2000000 in
theorem full_any (A : Option Addr) (n c : Nat) (l : List Nat) (w : World) (hin : IsB w A n c l) (hn : n ≤ 70368744177664) :
    Calls Try.prog 157 #[.slice A n c] w fun e w' => ∃ v, e = .returned v ∧ OwB w' w.heap.size v (full l) ∧ Below w.heap.size w w' := by
  obtain ⟨i0, hi0, hz0, hz1, hz2⟩ := info_parts infoU8
  have hl := hin.len
  obtain ⟨K, hK⟩ : ∃ K, K = (16 - n % 16) % 16 := ⟨_, rfl⟩
  have hfull : full l = l ++ zeros K := by unfold full; rw [hl, hK]
  have hK16 : K < 16 := by omega
  have hKm : (n + K) % 16 = 0 := by omega
  have hKn : ∀ k, k < K → (n + k) % 16 ≠ 0 := fun k hk => by omega
  have hcp := copy_any A n c l w hin (by omega)
  have HCP := Lib.hid hcp
  have HL := Lib.hid hl
  have HF := Lib.hid hfull
  have HKM := Lib.hid hKm
  have HKN := Lib.hid hKn
  have HBY := Lib.hid hin.2
  clear hcp hin hl hfull hKm hKn hK
  go_enter Try.func157, Try.ntmps157
  go_wp2_with fail
  refine HCP.out.mono ?_
  rintro e w1 ⟨rfl, hbk, hb1⟩
  have V0 : Hid (OwB w1 w.heap.size (.slice (some ⟨w.heap.size, 0, none⟩) n (n + 3)) (l ++ zeros 0)) := Lib.hid (by
    have := OwB.ofBk (l := l) hbk (Nat.le_refl _) HL.out (show n ≤ n + 3 by omega) (by rw [List.length_append, HL.out]; rfl) (by omega) (by rw [List.take_append_of_le_length (by rw [HL.out]; exact Nat.le_refl _), List.take_of_length_le (by rw [HL.out]; exact Nat.le_refl _)]) HBY.out
    simpa [zeros] using this)
  have V1 := Lib.hid hb1
  clear hbk hb1 HCP
  go_wp2_with fail
  go_loopw [3] (fun v wr => ∃ k : Nat, k ≤ K ∧ lenV v = n + k ∧ OwB wr w.heap.size v (l ++ zeros k) ∧ Below w.heap.size w wr) (fun v _ => n + 16 - lenV v)
  case atStart => exact ⟨0, Nat.zero_le _, rfl, V0.out, V1.out⟩
  case round =>
    obtain ⟨k, hk, hlv, ho, hb⟩ := hrel
    clear V0 V1
    obtain ⟨A1, c1, hv, _, _⟩ := ho.shape
    have hlen : (l ++ zeros k).length = n + k := by rw [List.length_append, HL.out, zeros_len]
    rw [hlen] at hv
    subst hv
    clear hlv
    by_cases hlt : k < K
    · have hm : (((n : Int) + (k : Int)) % 16 != 0) = true := by have := HKN.out k hlt; simp; omega
      have hbd : (n : Int) + (k : Int) ≤ 70368744177680 := by omega
      have HO := Lib.hid ho
      have HB := Lib.hid hb
      have HLE := Lib.hid hlen
      have HLT := Lib.hid hlt
      clear ho hb hlen
      go_wp2_with (refine wpList_appB _ rfl (.tmp 10) (.tmp 11) rfl Try.underlying28 hi0 hz0 hz1 hz2 rfl (HO.out.alloc _) rfl (isB_one _ 0 (by decide)) rfl (by rw [HLE.out]; omega) (by have := HB.out.size; simp; omega) ?_; intro v1 w2 hown2 hb2 hg2 hat2; rw [List.append_assoc, ← zeros_succ] at hown2)
      obtain ⟨A2, c2, hv2, _, _⟩ := hown2.shape
      have hlen2 : (l ++ zeros (k + 1)).length = n + (k + 1) := by rw [List.length_append, HL.out, zeros_len]
      rw [hlen2] at hv2
      have hlv2 : lenV v1 = n + (k + 1) := by rw [hv2]; rfl
      have hb3 : Below w.heap.size w w2 := (HB.out.alloc HB.out.size _).trans hb2
      have hlk := HLT.out
      exact ⟨⟨k + 1, by omega, hlv2, hown2, hb3⟩, by rw [hlv2]; show n + 16 - (n + (k + 1)) < n + 16 - (n + k); omega⟩
    · obtain rfl : k = K := by omega
      have hm : (((n : Int) + (k : Int)) % 16 != 0) = false := by have := HKM.out; simp; omega
      have hbd : (n : Int) + (k : Int) ≤ 70368744177680 := by omega
      rw [← HF.out] at ho
      have HO := Lib.hid ho
      have HB := Lib.hid hb
      clear ho hb hlen
      go_wp2_with fail
      go_ret
      exact ⟨_, rfl, HO.out, HB.out⟩
end Go.Proofs.Ytmeakfocppooiaa
