/-
  WALKS: quota.Fits, its sum over a list, the reference's Fits.
-/
import Derived.Test.YtlbpddkhfoddkaaQuA
import Derived.Test.YtlbpddkhfoddkaaFrame
namespace Go.Proofs.Ytlbpddkhfoddkaa
open Go.RowKit

/-- what the quotas of a list want together -/
def sumQ (zs : List Int) : Int := (zs.map (fun q => 4 * q + 2)).sum
def allQ (zs : List Int) : Bool := zs.all quotaB
/-- how many of the first ones may be quotas -/
theorem sumQ_take_succ (zs : List Int) (k : Nat) (h : k < zs.length) : sumQ (zs.take (k + 1)) = sumQ (zs.take k) + (4 * zs[k]?.getD 0 + 2) := by
  rw [List.take_succ_eq_append_getElem h, List.getElem?_eq_getElem h]
  simp only [sumQ, List.map_append, List.sum_append, List.map_cons, List.map_nil, List.sum_cons, List.sum_nil, Option.getD_some]
  omega
theorem allQ_take_succ (zs : List Int) (k : Nat) (h : k < zs.length) : allQ (zs.take (k + 1)) = (allQ (zs.take k) && quotaB (zs[k]?.getD 0)) := by
  rw [List.take_succ_eq_append_getElem h, List.getElem?_eq_getElem h]
  simp only [allQ, List.all_append, List.all_cons, List.all_nil, Option.getD_some, Bool.and_true]
theorem sumQ_bd : ∀ (zs : List Int), allQ zs = true → 0 ≤ sumQ zs ∧ sumQ zs ≤ 4002 * zs.length
  | [], _ => by simp [sumQ]
  | z :: zs, h => by
    simp only [allQ, List.all_cons, Bool.and_eq_true] at h
    have h2 := sumQ_bd zs h.2
    have h1 := h.1
    simp only [quotaB, Bool.and_eq_true, decide_eq_true_eq] at h1
    simp only [sumQ, List.map_cons, List.sum_cons, List.length_cons] at h2 ⊢
    omega
theorem allQ_not (zs : List Int) (k : Nat) (h : k < zs.length) (hq : quotaB (zs[k]?.getD 0) = false) : allQ zs = false := by
  cases hh : allQ zs
  · rfl
  · exfalso
    have := (List.all_eq_true.1 hh) zs[k] (List.getElem_mem h)
    rw [List.getElem?_eq_getElem h] at hq
    simp [this] at hq

def SumEnd (zs : List Int) (e : Ending) : Prop := e = if allQ zs then .returned (.tuple #[.int .i64 (sumQ zs), .int .i64 0]) else .returned (.tuple #[.int .i64 0, .int .i64 2])
theorem sumEnd_ok {zs : List Int} (h : allQ zs = true) {n : Int} (hn : n = sumQ zs) : SumEnd zs (.returned (.tuple #[.int .i64 n, .int .i64 0])) := by simp [SumEnd, h, hn]
theorem sumEnd_bad {zs : List Int} (h : allQ zs = false) : SumEnd zs (.returned (.tuple #[.int .i64 0, .int .i64 2])) := by simp [SumEnd, h]

set_option maxHeartbeats 1000000 in
theorem sumR_any (A : Option Addr) (n c : Nat) (zs : List Int) (w : World) (h : IsRow .i64 w A n c zs) (hn : n ≤ 64) :
    Calls Try.prog 33 #[.slice A n c, .func (.func 13) #[] #[]] w fun e w' => SumEnd zs e ∧ w = w' := by
  obtain ⟨hl, hnc, hcm, hwf, hcell⟩ := h
  have hcm' : c ≤ 9223372036854775807 := hcm
  clear hcm
  go_enter Try.func33, Try.ntmps33
  go_wp2
  go_loop [6, 13] (fun s i => ∃ k : Nat, k ≤ n ∧ allQ (zs.take k) = true ∧ i = .int .i64 k ∧ s = .int .i64 (sumQ (zs.take k))) (fun _ i => n - (intOf i).toNat)
  case atStart => exact ⟨0, Nat.zero_le _, by simp [allQ], rfl, by simp [sumQ]⟩
  case round =>
    obtain ⟨k, hk, hq, rfl, rfl⟩ := hrel
    have hbd := sumQ_bd _ hq
    have hkl : (zs.take k).length = k := by simp; omega
    rw [hkl] at hbd
    clear hkl
    by_cases hlt : k < n
    · obtain ⟨x, rfl, -, hc⟩ : ∃ x, A = some x ∧ True ∧ ∀ i, i < n → w.cell? (x.add i) = some (.int .i64 (zs.getD i 0)) := by
        rcases hcell with ⟨_, h0⟩ | ⟨x, h1, _, h2⟩
        · omega
        · exact ⟨x, h1, trivial, h2⟩
      have hck := hc k hlt
      clear hcell hc
      have hs := sumQ_take_succ zs k (by omega)
      have ha := allQ_take_succ zs k (by omega)
      have HN := fun hq' => allQ_not zs k (by omega) hq'
      have e0 : zs.getD k 0 = zs[k]?.getD 0 := by simp [List.getD]
      rw [e0] at hck
      clear e0
      generalize zs[k]?.getD 0 = q at hck hs ha HN
      have HS := Lib.hid hs
      have HA := Lib.hid ha
      have HNN := Lib.hid HN
      have HQ := Lib.hid hq
      clear hs ha HN hq
      rcases three q 1 1000 with h1 | ⟨h0, h1⟩ | ⟨h0, h1, h2⟩
      · go_wp2_with (go_at_call 13; refine (qR_bad _ _ (by omega)).mono ?_; rintro e w' ⟨rfl, rfl⟩)
        go_ret2
        exact ⟨sumEnd_bad (HNN.out (quotaB_no (by omega))), rfl⟩
      · go_wp2_with (go_at_call 13; refine (qR_bad _ _ (by omega)).mono ?_; rintro e w' ⟨rfl, rfl⟩)
        go_ret2
        exact ⟨sumEnd_bad (HNN.out (quotaB_no (by omega))), rfl⟩
      · go_wp2_with (go_at_call 13; refine (qR_ok _ _ (by omega) (by omega)).mono ?_; rintro e w' ⟨rfl, rfl⟩)
        go_round
        case rel => exact ⟨k + 1, by omega, by rw [HA.out, HQ.out, quotaB_yes (by omega) (by omega)]; rfl, by go_num, by rw [HS.out]⟩
        case measure => simp [intOf]; omega
    · have HQ := Lib.hid hq
      clear hq
      go_wp2
      go_ret2
      have e1 : zs.take k = zs := List.take_of_length_le (by omega)
      rw [e1] at HQ
      exact ⟨sumEnd_ok HQ.out (by rw [e1]), rfl⟩

def FitsEnd (blocks : Int) (zs : List Int) (e : Ending) : Prop :=
  e = if zs.length ≤ 64 ∧ allQ zs = true then .returned (.tuple #[.bool (decide (8 * (zs.length : Int) + 4 + sumQ zs ≤ blocks)), .int .i64 0]) else .returned (.tuple #[.bool false, .int .i64 2])
theorem fitsEnd_ok {zs : List Int} {blocks : Int} (h0 : zs.length ≤ 64) (h : allQ zs = true) {b : Bool} (hn : b = decide (8 * (zs.length : Int) + 4 + sumQ zs ≤ blocks)) : FitsEnd blocks zs (.returned (.tuple #[.bool b, .int .i64 0])) := by simp [FitsEnd, h, hn, h0]
theorem fitsEnd_bad {zs : List Int} {blocks : Int} (h : zs.length ≤ 64 → allQ zs = false) : FitsEnd blocks zs (.returned (.tuple #[.bool false, .int .i64 2])) := by
  unfold FitsEnd
  rw [if_neg]
  rintro ⟨h1, h2⟩
  rw [h h1] at h2
  cases h2

set_option maxHeartbeats 1000000 in
theorem qFits_any (blocks : Int) (A : Option Addr) (n c : Nat) (zs : List Int) (w : World) (h : IsRow .i64 w A n c zs) :
    Calls Try.prog 24 #[.int .i64 blocks, .slice A n c] w fun e w' => FitsEnd blocks zs e ∧ w = w' := by
  have hl := h.1
  by_cases hn : n ≤ 64
  · have H := Lib.hid h
    have HL := Lib.hid hl
    clear h hl
    cases hq : allQ zs
    · have HQ := Lib.hid hq
      clear hq
      go_enter Try.func24, Try.ntmps24
      go_wp2_with fail
      refine (qD_ok _ _ (by omega) (by omega)).mono ?_; rintro e w' ⟨rfl, rfl⟩
      go_wp2_with fail
      refine (sumR_any _ _ _ zs _ H.out hn).mono ?_; rintro e w' ⟨he, rfl⟩
      unfold SumEnd at he
      rw [HQ.out] at he
      subst he
      go_wp2
      go_ret2
      exact ⟨fitsEnd_bad (fun _ => HQ.out), rfl⟩
    · have hbd := sumQ_bd zs hq
      rw [HL.out] at hbd
      have HQ := Lib.hid hq
      clear hq
      go_enter Try.func24, Try.ntmps24
      go_wp2_with fail
      refine (qD_ok _ _ (by omega) (by omega)).mono ?_; rintro e w' ⟨rfl, rfl⟩
      go_wp2_with fail
      refine (sumR_any _ _ _ zs _ H.out hn).mono ?_; rintro e w' ⟨he, rfl⟩
      unfold SumEnd at he
      rw [HQ.out] at he
      subst he
      go_wp2
      go_ret2
      exact ⟨fitsEnd_ok (by rw [HL.out]; exact hn) HQ.out (by rw [HL.out]), rfl⟩
  · go_enter Try.func24, Try.ntmps24
    go_wp2_with fail
    refine (qD_bad _ _ (by omega)).mono ?_; rintro e w' ⟨rfl, rfl⟩
    go_wp2
    go_ret2
    exact ⟨fitsEnd_bad (fun h' => absurd h' (by rw [hl]; exact hn)), rfl⟩

set_option maxHeartbeats 1000000 in
theorem rFits_any (blocks : Int) (A : Option Addr) (n c : Nat) (zs : List Int) (w : World) (h : IsRow .i64 w A n c zs) :
    Calls Try.prog 25 #[.int .i64 blocks, .slice A n c] w fun e w' => FitsEnd blocks zs e ∧ w = w' := by
  obtain ⟨hl, hnc, hcm, hwf, hcell⟩ := h
  have hcm' : c ≤ 9223372036854775807 := hcm
  clear hcm
  by_cases hn : n ≤ 64
  · go_enter Try.func25, Try.ntmps25
    go_wp2
    go_loop [6, 7] (fun s i => ∃ k : Nat, k ≤ n ∧ allQ (zs.take k) = true ∧ i = .int .i64 k ∧ s = .int .i64 (8 * n + 4 + sumQ (zs.take k))) (fun _ i => n - (intOf i).toNat)
    case atStart => exact ⟨0, Nat.zero_le _, by simp [allQ], rfl, by simp [sumQ]⟩
    case round =>
      obtain ⟨k, hk, hq, rfl, rfl⟩ := hrel
      have hbd := sumQ_bd _ hq
      have hkl : (zs.take k).length = k := by simp; omega
      rw [hkl] at hbd
      clear hkl
      by_cases hlt : k < n
      · obtain ⟨x, rfl, -, hc⟩ : ∃ x, A = some x ∧ True ∧ ∀ i, i < n → w.cell? (x.add i) = some (.int .i64 (zs.getD i 0)) := by
          rcases hcell with ⟨_, h0⟩ | ⟨x, h1, _, h2⟩
          · omega
          · exact ⟨x, h1, trivial, h2⟩
        have hck := hc k hlt
        clear hcell hc
        have hs := sumQ_take_succ zs k (by omega)
        have ha := allQ_take_succ zs k (by omega)
        have HN := fun hq' => allQ_not zs k (by omega) hq'
        have e0 : zs.getD k 0 = zs[k]?.getD 0 := by simp [List.getD]
        rw [e0] at hck
        clear e0
        generalize zs[k]?.getD 0 = q at hck hs ha HN
        have HS := Lib.hid hs
        have HA := Lib.hid ha
        have HNN := Lib.hid HN
        have HQ := Lib.hid hq
        clear hs ha HN hq
        rcases three q 1 1000 with h1 | ⟨h0, h1⟩ | ⟨h0, h1, h2⟩
        · go_wp2_with (go_at_call 15; refine (rQuota_bad _ _ (by omega)).mono ?_; rintro e w' ⟨rfl, rfl⟩)
          go_ret2
          exact ⟨fitsEnd_bad (fun _ => HNN.out (quotaB_no (by omega))), rfl⟩
        · go_wp2_with (go_at_call 15; refine (rQuota_bad _ _ (by omega)).mono ?_; rintro e w' ⟨rfl, rfl⟩)
          go_ret2
          exact ⟨fitsEnd_bad (fun _ => HNN.out (quotaB_no (by omega))), rfl⟩
        · go_wp2_with (go_at_call 15; refine (rQuota_ok _ _ (by omega) (by omega)).mono ?_; rintro e w' ⟨rfl, rfl⟩)
          go_round
          case rel => exact ⟨k + 1, by omega, by rw [HA.out, HQ.out, quotaB_yes (by omega) (by omega)]; rfl, by go_num, by rw [HS.out]; go_num⟩
          case measure => simp [intOf]; omega
      · have HQ := Lib.hid hq
        clear hq
        go_wp2
        go_ret2
        have e1 : zs.take k = zs := List.take_of_length_le (by omega)
        rw [e1] at HQ
        exact ⟨fitsEnd_ok (by omega) HQ.out (by rw [e1, hl]), rfl⟩
  · go_enter Try.func25, Try.ntmps25
    go_wp2
    go_ret2
    exact ⟨fitsEnd_bad (fun h' => absurd h' (by rw [hl]; exact hn)), rfl⟩

end Go.Proofs.Ytlbpddkhfoddkaa
