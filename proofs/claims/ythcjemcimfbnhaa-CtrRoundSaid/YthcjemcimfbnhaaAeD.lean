/-
  WALKS: Mix and Unmix, the program's and the reference's.
-/
import Derived.Test.YthcjemcimfbnhaaAeC
namespace Go.Proofs.Ythcjemcimfbnhaa
open Go.RowKit
set_option linter.unusedVariables false

def mixM : List Nat := [2, 3, 1, 1, 1, 2, 3, 1, 1, 1, 2, 3, 3, 1, 1, 2]
def unmixM : List Nat := [14, 11, 13, 9, 9, 14, 11, 13, 13, 9, 14, 11, 11, 13, 9, 14]
def mix (c : List Nat) : List Nat := byRows mixM c
def unmix (c : List Nat) : List Nat := byRows unmixM c
theorem mixM_byt : Byt mixM := by unfold Byt mixM; decide
theorem unmixM_byt : Byt unmixM := by unfold Byt unmixM; decide
theorem mix_len (c : List Nat) : (mix c).length = 4 := byRows_len _ _
theorem unmix_len (c : List Nat) : (unmix c).length = 4 := byRows_len _ _
theorem mix_byt (c : List Nat) : Byt (mix c) := byRows_byt mixM_byt
theorem unmix_byt (c : List Nat) : Byt (unmix c) := byRows_byt unmixM_byt

set_option maxRecDepth 100000 in
set_option maxHeartbeats 1000000 in
theorem mix_any (c : List Nat) (hc : Byt c) (lc : c.length = 4) (w : World) :
    Calls Try.prog 153 #[.agg (bts c)] w fun e w' => e = .returned (.agg (bts (mix c))) ∧ Below w.heap.size w w' := by
  have LC := Lib.hid lc
  clear lc
  go_enter Try.func153, Try.ntmps153
  go_wp2_with (refine wpList_loadB (o := ⟨some 8, _, _, _, _, _⟩) rfl 200 (.tmp 1) rfl _ rfl ((Bk.newAt _ c rfl).alloc _) Try.underlying200 (by rw [LC.out]; exact sz4) ?_)
  refine (by_any mixM c mixM_byt hc rfl LC.out _).mono ?_
  rintro e w1 ⟨rfl, hb⟩
  have hr : Bk w1 (w.heap.size + 1) 200 [0, 0, 0, 0] := Bk.below (Bk.newAt (w := w.alloc (.cells (bts c) 200)) 200 [0, 0, 0, 0] (by simp)) hb (by simp)
  have hbw : Below w.heap.size w w1 := (((Below.refl _ _).alloc (Nat.le_refl _) _).alloc (by simp) _).trans (hb.mono (by simp; omega))
  have HR := Lib.hid hr
  have HB := Lib.hid hbw
  clear hb hr hbw
  go_wp2_with (refine wpList_storeB (o := ⟨none, .store _ _ _, _, _, _, _⟩) rfl 200 (.tmp 2) (.tmp 9) rfl _ rfl (mix c) rfl HR.out (by rw [show (mix c).length = 4 from byRows_len _ _]; exact sz4) (by rw [show (mix c).length = 4 from byRows_len _ _]; rfl) ?_)
  refine bodyPost_ret (results_bts Try.results153 _ _ _ rfl (HR.out.row (mix c)) Try.underlying200 (by rw [show (mix c).length = 4 from byRows_len _ _]; exact sz4)) rfl ?_
  exact ⟨rfl, Below.row HB.out (by omega) _⟩

end Go.Proofs.Ythcjemcimfbnhaa
