/-
  QuotaEnough returns true, whatever the three numbers are: the walk.
-/
import Derived.Test.YtlbpddkhfoddkaaQuA
namespace Go.Proofs.Ytlbpddkhfoddkaa
open Go.RowKit

theorem three (n lo hi : Int) : n < lo ∨ (¬ n < lo ∧ hi < n) ∨ (¬ n < lo ∧ n ≤ hi ∧ lo ≤ n) := by omega

set_option maxHeartbeats 4000000 in
theorem enough_any (a q n : Int) (w : World) :
    Calls Try.prog 4 #[.int .i64 a, .int .i64 q, .int .i64 n] w fun e w' => e = .returned (.bool true) ∧ Below w.heap.size w w' := by
  rcases three a 0 1073741824 with ha | ⟨ha0, ha⟩ | ⟨ha0, ha, ha1⟩ <;> rcases three q 1 1000 with hq | ⟨hq0, hq⟩ | ⟨hq0, hq, hq1⟩ <;> rcases three n 0 64 with hn | ⟨hn0, hn⟩ | ⟨hn0, hn, hn1⟩ <;>
  · go_enter Try.func4, Try.ntmps4
    go_wp2_with first
      | (go_at_call 12; first | (refine (qPages_ok _ _ (by omega) (by omega)).mono ?_; rintro e w' ⟨rfl, rfl⟩) | (refine (qPages_bad _ _ (by omega)).mono ?_; rintro e w' ⟨rfl, rfl⟩))
      | (go_at_call 13; first | (refine (qR_ok _ _ (by omega) (by omega)).mono ?_; rintro e w' ⟨rfl, rfl⟩) | (refine (qR_bad _ _ (by omega)).mono ?_; rintro e w' ⟨rfl, rfl⟩))
      | (go_at_call 14; first | (refine (qD_ok _ _ (by omega) (by omega)).mono ?_; rintro e w' ⟨rfl, rfl⟩) | (refine (qD_bad _ _ (by omega)).mono ?_; rintro e w' ⟨rfl, rfl⟩))
      | (go_at_call 15; first | (refine (rQuota_ok _ _ (by omega) (by omega)).mono ?_; rintro e w' ⟨rfl, rfl⟩) | (refine (rQuota_bad _ _ (by omega)).mono ?_; rintro e w' ⟨rfl, rfl⟩))
      | (go_at_call 11; refine (known_any _).mono ?_; rintro e w' ⟨rfl, hb⟩)
    go_ret
    exact ⟨rfl, hb⟩

theorem enough_walk (a q n : Int) (w : World) (_ : (Lit.int .i64 a).wf = true) (_ : (Lit.int .i64 q).wf = true) (_ : (Lit.int .i64 n).wf = true) :
    Calls Try.prog 4 #[.int .i64 a, .int .i64 q, .int .i64 n] w fun e w' => e = .returned (.bool true) ∧ Below w.heap.size w w' := enough_any a q n w

end Go.Proofs.Ytlbpddkhfoddkaa
