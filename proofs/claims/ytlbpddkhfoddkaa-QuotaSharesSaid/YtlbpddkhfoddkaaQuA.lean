/-
  WALKS of quota's small functions: Pages, R, D, the reference's Quota, Pieces, Cost, known.
-/
import Derived.Test.YtlbpddkhfoddkaaRows
import Derived.WalkKit
import Derived.WalkSpells
import Derived.WalkLawsBesides
import Derived.Lib.Hide
import Derived.Lib.SlBytesConst
namespace Go.Proofs.Ytlbpddkhfoddkaa
open Go.RowKit

theorem three (n lo hi : Int) : n < lo ∨ (¬ n < lo ∧ hi < n) ∨ (¬ n < lo ∧ n ≤ hi ∧ lo ≤ n) := by omega

set_option maxHeartbeats 400000 in
theorem qPages_bad (n : Int) (w : World) (h : n < 0 ∨ 1073741824 < n) :
    Calls Try.prog 12 #[.int .i64 n] w fun e w' => e = .returned (.tuple #[.int .i64 0, .int .i64 2]) ∧ w = w' := by
  rcases h with h | h
  · go_enter Try.func12, Try.ntmps12
    go_wp2
    go_ret2
    exact ⟨rfl, rfl⟩
  · have h0 : ¬ n < 0 := by omega
    go_enter Try.func12, Try.ntmps12
    go_wp2
    go_ret2
    exact ⟨rfl, rfl⟩

set_option maxHeartbeats 400000 in
theorem qPages_ok (n : Int) (w : World) (h0 : 0 ≤ n) (h1 : n ≤ 1073741824) :
    Calls Try.prog 12 #[.int .i64 n] w fun e w' => e = .returned (.tuple #[.int .i64 (2 * n + 1), .int .i64 0]) ∧ w = w' := by
  go_enter Try.func12, Try.ntmps12
  go_wp2
  go_ret2
  exact ⟨rfl, rfl⟩

set_option maxHeartbeats 400000 in
theorem qR_bad (n : Int) (w : World) (h : n < 1 ∨ 1000 < n) :
    Calls Try.prog 13 #[.int .i64 n] w fun e w' => e = .returned (.tuple #[.int .i64 0, .int .i64 2]) ∧ w = w' := by
  rcases h with h | h
  · go_enter Try.func13, Try.ntmps13
    go_wp2
    go_ret2
    exact ⟨rfl, rfl⟩
  · have h0 : ¬ n < 1 := by omega
    go_enter Try.func13, Try.ntmps13
    go_wp2
    go_ret2
    exact ⟨rfl, rfl⟩

set_option maxHeartbeats 400000 in
theorem qR_ok (n : Int) (w : World) (h0 : 1 ≤ n) (h1 : n ≤ 1000) :
    Calls Try.prog 13 #[.int .i64 n] w fun e w' => e = .returned (.tuple #[.int .i64 (4 * n + 2), .int .i64 0]) ∧ w = w' := by
  go_enter Try.func13, Try.ntmps13
  go_wp2
  go_ret2
  exact ⟨rfl, rfl⟩

set_option maxHeartbeats 400000 in
theorem qD_bad (n : Int) (w : World) (h : n < 0 ∨ 64 < n) :
    Calls Try.prog 14 #[.int .i64 n] w fun e w' => e = .returned (.tuple #[.int .i64 0, .int .i64 2]) ∧ w = w' := by
  rcases h with h | h
  · go_enter Try.func14, Try.ntmps14
    go_wp2
    go_ret2
    exact ⟨rfl, rfl⟩
  · have h0 : ¬ n < 0 := by omega
    go_enter Try.func14, Try.ntmps14
    go_wp2
    go_ret2
    exact ⟨rfl, rfl⟩

set_option maxHeartbeats 400000 in
theorem qD_ok (n : Int) (w : World) (h0 : 0 ≤ n) (h1 : n ≤ 64) :
    Calls Try.prog 14 #[.int .i64 n] w fun e w' => e = .returned (.tuple #[.int .i64 (8 * n + 4), .int .i64 0]) ∧ w = w' := by
  go_enter Try.func14, Try.ntmps14
  go_wp2
  go_ret2
  exact ⟨rfl, rfl⟩

def quotaB (n : Int) : Bool := decide (1 ≤ n) && decide (n ≤ 1000)
theorem quotaB_yes {n : Int} (h0 : 1 ≤ n) (h1 : n ≤ 1000) : quotaB n = true := by unfold quotaB; simp; omega
theorem quotaB_no {n : Int} (h : n < 1 ∨ 1000 < n) : quotaB n = false := by unfold quotaB; simp; omega

set_option maxHeartbeats 400000 in
theorem rQuota_ok (n : Int) (w : World) (h0 : 1 ≤ n) (h1 : n ≤ 1000) :
    Calls Try.prog 15 #[.int .i64 n] w fun e w' => e = .returned (.bool true) ∧ w = w' := by
  go_enter Try.func15, Try.ntmps15
  go_wp2
  go_ret
  exact ⟨rfl, rfl⟩

set_option maxHeartbeats 400000 in
theorem rQuota_bad (n : Int) (w : World) (h : n < 1 ∨ 1000 < n) :
    Calls Try.prog 15 #[.int .i64 n] w fun e w' => e = .returned (.bool false) ∧ w = w' := by
  rcases h with h | h
  · have h' : ¬ 1 ≤ n := by omega
    go_enter Try.func15, Try.ntmps15
    go_wp2
    go_ret
    exact ⟨rfl, rfl⟩
  · have h' : 1 ≤ n := by omega
    have h2 : decide (n ≤ 1000) = false := by simp; omega
    go_enter Try.func15, Try.ntmps15
    go_wp2
    go_ret
    exact ⟨rfl, rfl⟩

set_option maxHeartbeats 400000 in
theorem qPieces_bad (n : Int) (w : World) (h : n < 0 ∨ 1024 < n) :
    Calls Try.prog 16 #[.int .i64 n] w fun e w' => e = .returned (.tuple #[.int .i64 0, .int .i64 2]) ∧ w = w' := by
  rcases h with h | h
  · go_enter Try.func16, Try.ntmps16
    go_wp2
    go_ret2
    exact ⟨rfl, rfl⟩
  · have h0 : ¬ n < 0 := by omega
    go_enter Try.func16, Try.ntmps16
    go_wp2
    go_ret2
    exact ⟨rfl, rfl⟩

/-- how many pieces: the plain function -/
def piecesOf (n : Int) : Int := if n ≤ 64 then 0 else (n + 207) / 208

set_option maxHeartbeats 400000 in
theorem qPieces_ok (n : Int) (w : World) (h0 : 0 ≤ n) (h1 : n ≤ 1024) :
    Calls Try.prog 16 #[.int .i64 n] w fun e w' => e = .returned (.tuple #[.int .i64 (piecesOf n), .int .i64 0]) ∧ w = w' := by
  by_cases h : n ≤ 64
  · have e : piecesOf n = 0 := by unfold piecesOf; rw [if_pos h]
    rw [e]
    clear e
    go_enter Try.func16, Try.ntmps16
    go_wp2
    go_ret2
    exact ⟨rfl, rfl⟩
  · have e : piecesOf n = (n + 208 - 1) / 208 := by unfold piecesOf; rw [if_neg h]; omega
    rw [e]
    clear e
    go_enter Try.func16, Try.ntmps16
    go_wp2
    go_ret2
    exact ⟨rfl, rfl⟩

set_option maxHeartbeats 400000 in
theorem qCost_ok (ka va : Option Addr) (kl kc vl vc : Nat) (w : World) (h0 : 1 ≤ kl) (h1 : kl ≤ 32) (h2 : vl ≤ 1024) :
    Calls Try.prog 18 #[.slice ka kl kc, .slice va vl vc] w fun e w' => e = .returned (.tuple #[.int .i64 (piecesOf vl + 1), .int .i64 0]) ∧ w = w' := by
  have hp : 0 ≤ piecesOf vl ∧ piecesOf vl ≤ 10 := by unfold piecesOf; split <;> omega
  have hk0 : ((kl : Int) == 0) = false := by simp; omega
  have hk1 : decide (32 < (kl : Int)) = false := by simp; omega
  go_enter Try.func18, Try.ntmps18
  go_wp2_with (go_at_call 16; refine (qPieces_ok _ _ (by omega) (by omega)).mono ?_; rintro e w' ⟨rfl, rfl⟩)
  go_ret2
  exact ⟨rfl, rfl⟩

set_option maxHeartbeats 400000 in
theorem qCost_long (ka va : Option Addr) (kl kc vl vc : Nat) (w : World) (h2 : 1024 < vl) :
    Calls Try.prog 18 #[.slice ka kl kc, .slice va vl vc] w fun e w' => e = .returned (.tuple #[.int .i64 0, .int .i64 2]) ∧ w = w' := by
  go_enter Try.func18, Try.ntmps18
  go_wp2_with (go_at_call 16; refine (qPieces_bad _ _ (by omega)).mono ?_; rintro e w' ⟨rfl, rfl⟩)
  go_ret2
  exact ⟨rfl, rfl⟩

set_option maxHeartbeats 400000 in
theorem qCost_key (ka va : Option Addr) (kl kc vl vc : Nat) (w : World) (h2 : vl ≤ 1024) (h : kl = 0 ∨ 32 < kl) :
    Calls Try.prog 18 #[.slice ka kl kc, .slice va vl vc] w fun e w' => e = .returned (.tuple #[.int .i64 0, .int .i64 2]) ∧ w = w' := by
  rcases h with rfl | h
  · go_enter Try.func18, Try.ntmps18
    go_wp2_with (go_at_call 16; refine (qPieces_ok _ _ (by omega) (by omega)).mono ?_; rintro e w' ⟨rfl, rfl⟩)
    go_ret2
    exact ⟨rfl, rfl⟩
  · have hk0 : ((kl : Int) == 0) = false := by simp; omega
    have hk1 : decide (32 < (kl : Int)) = true := by simp; omega
    go_enter Try.func18, Try.ntmps18
    go_wp2_with (go_at_call 16; refine (qPieces_ok _ _ (by omega) (by omega)).mono ?_; rintro e w' ⟨rfl, rfl⟩)
    go_ret2
    exact ⟨rfl, rfl⟩

theorem infoI64 : (Try.prog.info? 3).map (fun i => (i.zero, i.size, i.bytes)) = some (some (.int .i64 0), 1, 8) := by kernel_rfl
theorem infoU8 : (Try.prog.info? 5).map (fun i => (i.zero, i.size, i.bytes)) = some (some (.int .u8 0), 1, 1) := by kernel_rfl

set_option maxHeartbeats 400000 in
theorem known_any (w : World) :
    Calls Try.prog 11 #[] w fun e w' => e = .returned (.bool true) ∧ Below w.heap.size w w' := by
  obtain ⟨i0, hi, hz0, hz1, hz2⟩ := info_parts infoU8
  have hmk := fun w => run_make (P := Try.prog) w 31 5 i0 (.int .u8 0) Try.underlying31 hi hz0 .i64 .i64 65 65 (by omega) (by omega) (by rw [hz2]; omega) (by omega)
  have hkc := fun (w : World) (C : Array Value) (n c : Nat) => Lib.run_convert_bytes_const (P := Try.prog) w 31 5 C n c Try.underlying31 Try.underlying5
  clear hi hz0 hz1 hz2
  go_enter Try.func11, Try.ntmps11
  go_wp2_with first | (go_at_call 13; refine (qR_ok _ _ (by omega) (by omega)).mono ?_; rintro e w' ⟨rfl, rfl⟩) | (go_at_call 18; refine (qCost_ok _ _ _ _ _ _ _ (by omega) (by omega) (by omega)).mono ?_; rintro e w' ⟨rfl, rfl⟩)
  go_ret
  refine ⟨rfl, ?_⟩
  exact ((Below.refl _ _).alloc (Nat.le_refl _) _).alloc (by simp) _

end Go.Proofs.Ytlbpddkhfoddkaa
