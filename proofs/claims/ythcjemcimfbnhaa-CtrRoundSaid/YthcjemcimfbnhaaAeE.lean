/-
  WALKS: the reference's rows, Mix and Unmix.
-/
import Derived.Test.YthcjemcimfbnhaaAeD
namespace Go.Proofs.Ythcjemcimfbnhaa
open Go.RowKit
set_option linter.unusedVariables false

/-- the first row's numbers, turned on, are the matrix's -/
def Turned (first M : List Nat) : Prop := first.length = 4 ∧ ∀ i, i < 4 → ∀ k, k < 4 → first[(k + 4 - i) % 4]?.getD 0 = (rowOf M i)[k]?.getD 0 ∧ first[(k + 4 - i) % 4]?.getD 0 < 16
theorem turned_mix : Turned [2, 3, 1, 1] mixM := by unfold Turned; decide
theorem turned_unmix : Turned [14, 11, 13, 9] unmixM := by unfold Turned; decide

/-- behind i rounds of the outer loop, k of the inner one -/
structure RowSt (B : Nat) (w : World) (first M c : List Nat) (i k : Nat) : Prop where
  out : Bk w (B + 1 + 1 + 1) 200 ((upd (byF M c) [0, 0, 0, 0] i).set i (rowAcc (rowOf M i) c k))
  fst : Bk w B 200 first
  col : Bk w (B + 1) 200 c
  res : Bk w (B + 1 + 1) 200 [0, 0, 0, 0]
  size : B + 4 ≤ w.heap.size
theorem set_zero {F : Nat → Nat} {i : Nat} (hi : i < 4) : (upd F [0, 0, 0, 0] i).set i 0 = upd F [0, 0, 0, 0] i := by
  apply List.ext_getElem (by simp)
  intro j h1 h2
  rw [List.getElem_set]
  split
  · rename_i hij
    subst hij
    have := upd_get F [0, 0, 0, 0] i i (by simpa using hi)
    rw [List.getElem?_eq_getElem h2] at this
    simp only [Option.getD_some, Nat.lt_irrefl, if_false] at this
    rw [this]
    match i, hi with
    | 0, _ => rfl
    | 1, _ => rfl
    | 2, _ => rfl
    | 3, _ => rfl
  · rfl
theorem RowSt.cell {B : Nat} {w : World} {first M c : List Nat} {i k : Nat} (h : RowSt B w first M c i k) (hi : i < 4) : w.cell? ⟨B + 1 + 1 + 1, i, none⟩ = some (.int .u8 (rowAcc (rowOf M i) c k : Nat)) := by
  have hl : i < ((upd (byF M c) [0, 0, 0, 0] i).set i (rowAcc (rowOf M i) c k)).length := by simp [upd_len]; exact hi
  rw [h.out.cell hl]
  simp [upd_len, hi]
theorem rowSt_step {B : Nat} {w : World} {first M c : List Nat} {i k x : Nat} (h : RowSt B w first M c i k) (hi : i < 4) (hx : x = rowAcc (rowOf M i) c (k + 1)) :
    RowSt B (w.drew.setCell ⟨B + 1 + 1 + 1, i, none⟩ (.int .u8 (x : Int))) first M c i (k + 1) := by
  subst hx
  refine ⟨?_, h.fst.drew.far (by omega) _, h.col.drew.far (by omega) _, h.res.drew.far (by omega) _, by simpa using h.size⟩
  have := h.out.drew.set i (rowAcc (rowOf M i) c (k + 1))
  rw [List.set_set] at this
  exact this
theorem rowSt_next {B : Nat} {w : World} {first M c : List Nat} {i : Nat} (h : RowSt B w first M c i 4) (hi : i < 4) : RowSt B w first M c (i + 1) 0 := by
  refine ⟨?_, h.fst, h.col, h.res, h.size⟩
  have h1 := h.out
  have e : rowAcc (rowOf M i) c 4 = byF M c i := rfl
  rw [e, upd_step (byF M c) [0, 0, 0, 0] i (by simpa using hi)] at h1
  show Bk w _ _ ((upd (byF M c) [0, 0, 0, 0] (i + 1)).set (i + 1) 0)
  by_cases h4 : i + 1 < 4
  · rw [set_zero h4]; exact h1
  · rw [List.set_eq_of_length_le (by simp [upd_len]; omega)]; exact h1

set_option maxRecDepth 100000 in
set_option maxHeartbeats 1000000 in
theorem rows_any (first M c : List Nat) (hT : Turned first M) (hM : Byt M) (hc : Byt c) (lc : c.length = 4) (w : World) :
    Calls Try.prog 163 #[.agg (bts first), .agg (bts c)] w fun e w' => e = .returned (.agg (bts (byRows M c))) ∧ Below w.heap.size w w' := by
  have LC := Lib.hid lc
  have HT := Lib.hid hT
  clear lc hT
  go_enter Try.func163, Try.ntmps163
  go_wp2_with fail
  go_loopw [6, 7] (fun i _ wr => ∃ k : Nat, k ≤ 4 ∧ i = .int .i64 k ∧ RowSt w.heap.size wr first M c k 0 ∧ Below w.heap.size w wr) (fun i _ _ => 4 - (intOf i).toNat)
  case atStart =>
    refine ⟨0, by omega, rfl, ⟨?_, ?_, ?_, ?_, ?_⟩, ?_⟩
    · show Bk _ _ _ ((upd (byF M c) [0, 0, 0, 0] 0).set 0 0)
      rw [set_zero (by omega), upd_zero]
      exact Bk.newAt _ [0, 0, 0, 0] (by simp)
    · exact (((Bk.newAt _ first rfl).alloc _).alloc _).alloc _
    · exact ((Bk.newAt _ c (by simp)).alloc _).alloc _
    · exact (Bk.newAt _ [0, 0, 0, 0] (by simp)).alloc _
    · simp
    · exact ((((Below.refl _ _).alloc (Nat.le_refl _) _).alloc (by simp) _).alloc (by simp; omega) _).alloc (by simp; omega) _
  case round =>
    obtain ⟨i, hi, rfl, ho, hb⟩ := hrel
    by_cases hlt : i < 4
    · have HO := Lib.hid ho
      have HB := Lib.hid hb
      have hdi : decide ((i : Int) < 4) = true := by simp; omega
      have hdj : (i : Int) < 4 := by omega
      clear ho hb
      go_wp2_with fail
      go_loopw [7] (fun j wq => ∃ k : Nat, k ≤ 4 ∧ j = .int .i64 k ∧ RowSt w.heap.size wq first M c i k ∧ Below w.heap.size w wq) (fun j _ => 4 - (intOf j).toNat)
      case atStart => exact ⟨0, by omega, rfl, HO.out, HB.out⟩
      case round =>
        obtain ⟨k, hk, rfl, hin, hb⟩ := hrel
        clear HO HB
        by_cases hlk : k < 4
        · obtain ⟨hf1, hf2⟩ := HT.out.2 i hlt k hlk
          have oc := hin.cell hlt
          have of := hin.out.free i
          have cc := hin.col.cell (k := k) (by rw [LC.out]; exact hlk)
          have fc := hin.fst.cell (k := (k + 4 - i) % 4) (by rw [HT.out.1]; omega)
          have hx := rowAcc_lt (c := c) (rowOf_byt hM i) k
          have hs : rowAcc (rowOf M i) c (k + 1) = rowAcc (rowOf M i) c k ^^^ gmul ((rowOf M i)[k]?.getD 0) (c[k]?.getD 0) := rfl
          rw [← hf1] at hs
          have hy := hc.get k
          have t0 : ((k : Int) - (i : Int) + 4).tmod 4 = (((k + 4 - i) % 4 : Nat) : Int) := by
            rw [Int.tmod_eq_emod_of_nonneg (by omega)]
            omega
          have u0 : IntKind.i64.wrap ((k : Int) - (i : Int)) = (k : Int) - (i : Int) := IntWalk.i64_in _ (by omega)
          have u1 : IntKind.i64.wrap ((k : Int) - (i : Int) + 4) = (k : Int) - (i : Int) + 4 := IntWalk.i64_in _ (by omega)
          have t1 : (k + 4 - i) % 4 < 4 := by omega
          clear hf1
          generalize (k + 4 - i) % 4 = m at fc hs hf2 t0 t1
          have t2 : (m : Int) < 4 := by omega
          generalize first[m]?.getD 0 = z at fc hs hf2
          generalize c[k]?.getD 0 = y at cc hy hs
          have hzy : rmul z y = gmul z y := rmul_gmul z hf2 y hy
          have hg := gmul_lt y (show z < 256 by omega)
          have hxo := bits_xor_u8 (rowAcc (rowOf M i) c k) (gmul z y) hx hg
          have hcall : ∀ W : World, Calls Try.prog 182 #[.int .u8 (z : Int), .int .u8 (y : Int)] W fun e w' => e = .returned (.int .u8 (gmul z y : Nat)) ∧ w' = W := fun W => by
            rw [← hzy]
            exact same_of (rMul_any z y (by omega) hy W)
          generalize hxx : rowAcc (rowOf M i) c k = x at oc hx hs hxo
          have HXX := Lib.hid hxx
          have HS := Lib.hid hs
          have HI := Lib.hid hin
          have HB2 := Lib.hid hb
          have HC := Lib.hid hcall
          clear hxx hs hin hb hcall hzy
          go_wp2_with fail
          refine wp_still_tail 17 (by kernel_rfl) (by kernel_rfl) ?_
          simp only [List.take_succ_cons, List.take_zero, List.drop_succ_cons, List.drop_zero]
          repeat still_step
          refine wpStill_step (fun K hK => ?_)
          go_simp
          refine ⟨_, HC.out _, hK _ ?_⟩
          clear hK K
          repeat still_step
          refine wpStill_nil ?_
          clear u0 u1 t0
          go_wp2
          go_roundw
          case rel => exact ⟨k + 1, by omega, by go_num, rowSt_step HI.out hlt (by rw [HS.out]), HB2.out.drew.setCell (by show w.heap.size ≤ w.heap.size + 1 + 1 + 1; omega) _⟩
          case measure => simp [intOf]; omega
        · obtain rfl : k = 4 := by omega
          have HO' := Lib.hid (rowSt_next hin hlt)
          have HB2 := Lib.hid hb
          clear hin hb
          go_wp2
          go_roundw
          case rel => exact ⟨i + 1, by omega, by go_num, HO'.out, HB2.out⟩
          case measure => simp [intOf]; omega
    · obtain rfl : i = 4 := by omega
      have h1 := ho.out
      have e1 : (upd (byF M c) [0, 0, 0, 0] 4).set 4 (rowAcc (rowOf M 4) c 0) = byRows M c := by
        rw [List.set_eq_of_length_le (by simp [upd_len])]
        exact upd_all (byF M c) [0, 0, 0, 0]
      rw [e1] at h1
      have h2 := ho.res
      have H1 := Lib.hid h1
      have H2 := Lib.hid h2
      have HB2 := Lib.hid hb
      clear h1 h2 hb ho e1
      go_wp2_with (first
        | (refine wpList_loadB (o := ⟨some 33, _, _, _, _, _⟩) rfl 200 (.tmp 5) rfl _ rfl H1.out Try.underlying200 (by rw [byRows_len]; exact sz4) ?_)
        | (refine wpList_storeB (o := ⟨none, .store _ _ _, _, _, _, _⟩) rfl 200 (.tmp 4) (.tmp 33) rfl _ rfl (byRows M c) rfl H2.out (by rw [byRows_len]; exact sz4) (by rw [byRows_len]; rfl) ?_))
      refine bodyPost_ret (results_bts Try.results163 _ _ _ rfl (H2.out.row (byRows M c)) Try.underlying200 (by rw [byRows_len]; exact sz4)) rfl ?_
      exact ⟨rfl, Below.row HB2.out (by omega) _⟩


set_option maxRecDepth 100000 in
set_option maxHeartbeats 1000000 in
theorem rMix_any (c : List Nat) (hc : Byt c) (lc : c.length = 4) (w : World) :
    Calls Try.prog 140 #[.agg (bts c)] w fun e w' => e = .returned (.agg (bts (mix c))) ∧ Below w.heap.size w w' := by
  have LC := Lib.hid lc
  clear lc
  go_enter Try.func140, Try.ntmps140
  go_wp2_with (refine wpList_loadB (o := ⟨some 4, _, _, _, _, _⟩) rfl 200 (.tmp 1) rfl _ rfl ((Bk.newAt _ c rfl).alloc _) Try.underlying200 (by rw [LC.out]; exact sz4) ?_)
  refine (rows_any [2, 3, 1, 1] mixM c turned_mix mixM_byt hc LC.out _).mono ?_
  rintro e w1 ⟨rfl, hb⟩
  have hr : Bk w1 (w.heap.size + 1) 200 [0, 0, 0, 0] := Bk.below (Bk.newAt (w := w.alloc (.cells (bts c) 200)) 200 [0, 0, 0, 0] (by simp)) hb (by simp)
  have hbw : Below w.heap.size w w1 := (((Below.refl _ _).alloc (Nat.le_refl _) _).alloc (by simp) _).trans (hb.mono (by simp; omega))
  have HR := Lib.hid hr
  have HB := Lib.hid hbw
  clear hb hr hbw
  go_wp2_with (refine wpList_storeB (o := ⟨none, .store _ _ _, _, _, _, _⟩) rfl 200 (.tmp 2) (.tmp 5) rfl _ rfl (mix c) rfl HR.out (by rw [show (mix c).length = 4 from byRows_len _ _]; exact sz4) (by rw [show (mix c).length = 4 from byRows_len _ _]; rfl) ?_)
  refine bodyPost_ret (results_bts Try.results140 _ _ _ rfl (HR.out.row (mix c)) Try.underlying200 (by rw [show (mix c).length = 4 from byRows_len _ _]; exact sz4)) rfl ?_
  exact ⟨rfl, Below.row HB.out (by omega) _⟩

end Go.Proofs.Ythcjemcimfbnhaa
