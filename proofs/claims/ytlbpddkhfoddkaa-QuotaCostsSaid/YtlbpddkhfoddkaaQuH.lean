/-
  WALKS: costs and charges: the program's and the reference's.
-/
import Derived.Test.YtlbpddkhfoddkaaQuA
import Derived.Test.YtlbpddkhfoddkaaMem
import Derived.Deep.Slices
import Derived.Deep.QuietTactic
import Derived.BigQuiet
namespace Go.Proofs.Ytlbpddkhfoddkaa
open Go.RowKit Go.Deep
set_option linter.unusedVariables false

set_option maxHeartbeats 400000 in
theorem rPieces_any (n : Int) (w : World) (h0 : 0 ≤ n) (h1 : n ≤ 1024) :
    Calls Try.prog 17 #[.int .i64 n] w fun e w' => e = .returned (.int .i64 (piecesOf n)) ∧ w = w' := by
  by_cases h : n ≤ 64
  · have e : piecesOf n = 0 := by unfold piecesOf; rw [if_pos h]
    rw [e]
    clear e
    go_enter Try.func17, Try.ntmps17
    go_wp2
    go_ret
    exact ⟨rfl, rfl⟩
  · have e : piecesOf n = (n + 207) / 208 := by unfold piecesOf; rw [if_neg h]
    rw [e]
    clear e
    go_enter Try.func17, Try.ntmps17
    go_wp2
    go_loop [0, 3] (fun m k => ∃ j : Int, 0 ≤ j ∧ j ≤ 10 ∧ k = .int .i64 j ∧ m = .int .i64 (n - 208 * j) ∧ -208 < n - 208 * j) (fun m _ => (intOf m + 208).toNat)
    case atStart => exact ⟨0, by omega, by omega, rfl, by simp, by omega⟩
    case round =>
      obtain ⟨j, hj0, hj1, rfl, rfl, hj2⟩ := hrel
      by_cases hlt : 0 < n - 208 * j
      · go_wp2
        go_round
        case rel => exact ⟨j + 1, by omega, by omega, rfl, by rw [show n - 208 * (j + 1) = n - 208 * j - 208 from by omega], by omega⟩
        case measure => simp [intOf]; omega
      · have hle : n - 208 * j ≤ 0 := by omega
        go_wp2
        go_ret
        refine ⟨?_, rfl⟩
        show Ending.returned (Value.int .i64 j) = _
        rw [show (n + 207) / 208 = j from by omega]

theorem cost_comm (n : Int) : Ending.returned (.tuple #[.int .i64 (1 + n), .int .i64 0]) = .returned (.tuple #[.int .i64 (n + 1), .int .i64 0]) := by rw [Int.add_comm]

/-- what a pair costs, and its error -/
def costN (kl vl : Nat) : Int := if 1 ≤ kl ∧ kl ≤ 32 ∧ vl ≤ 1024 then piecesOf vl + 1 else 0
def costE (kl vl : Nat) : Int := if 1 ≤ kl ∧ kl ≤ 32 ∧ vl ≤ 1024 then 0 else 2
theorem costE_or (kl vl : Nat) : costE kl vl = 0 ∨ costE kl vl = 2 := by unfold costE; split <;> simp
theorem costN_bd (kl vl : Nat) : 0 ≤ costN kl vl ∧ costN kl vl ≤ 11 := by
  unfold costN
  split
  · unfold piecesOf; split <;> omega
  · omega

theorem qCost_any (ka va : Option Addr) (kl kc vl vc : Nat) (w : World) :
    Calls Try.prog 18 #[.slice ka kl kc, .slice va vl vc] w fun e w' => e = .returned (.tuple #[.int .i64 (costN kl vl), .int .i64 (costE kl vl)]) ∧ w = w' := by
  unfold costN costE
  by_cases hv : vl ≤ 1024
  · by_cases hk : 1 ≤ kl ∧ kl ≤ 32
    · rw [if_pos ⟨hk.1, hk.2, hv⟩, if_pos ⟨hk.1, hk.2, hv⟩]
      exact qCost_ok ka va kl kc vl vc w hk.1 hk.2 hv
    · rw [if_neg (by omega), if_neg (by omega)]
      exact qCost_key ka va kl kc vl vc w hv (by omega)
  · rw [if_neg (by omega), if_neg (by omega)]
    exact qCost_long ka va kl kc vl vc w (by omega)

set_option maxHeartbeats 400000 in
theorem rCost_any (ka va : Option Addr) (kl kc vl vc : Nat) (w : World) :
    Calls Try.prog 19 #[.slice ka kl kc, .slice va vl vc] w fun e w' => e = .returned (.tuple #[.int .i64 (costN kl vl), .int .i64 (costE kl vl)]) ∧ w = w' := by
  unfold costN costE
  by_cases hk1 : kl < 1
  · rw [if_neg (by omega), if_neg (by omega)]
    have t1 : decide ((kl : Int) < 1) = true := by simp; omega
    go_enter Try.func19, Try.ntmps19
    go_wp2
    go_ret2
    exact ⟨rfl, rfl⟩
  · by_cases hk2 : 32 < kl
    · rw [if_neg (by omega), if_neg (by omega)]
      have t1 : decide ((kl : Int) < 1) = false := by simp; omega
      have t2 : decide (32 < (kl : Int)) = true := by simp; omega
      go_enter Try.func19, Try.ntmps19
      go_wp2
      go_ret2
      exact ⟨rfl, rfl⟩
    · have t1 : decide ((kl : Int) < 1) = false := by simp; omega
      have t2 : decide (32 < (kl : Int)) = false := by simp; omega
      by_cases hv : 1024 < vl
      · rw [if_neg (by omega), if_neg (by omega)]
        have t3 : decide (1024 < (vl : Int)) = true := by simp; omega
        go_enter Try.func19, Try.ntmps19
        go_wp2
        go_ret2
        exact ⟨rfl, rfl⟩
      · rw [if_pos (by omega), if_pos (by omega)]
        have t3 : decide (1024 < (vl : Int)) = false := by simp; omega
        have hp : 0 ≤ piecesOf vl ∧ piecesOf vl ≤ 10 := by unfold piecesOf; split <;> omega
        go_enter Try.func19, Try.ntmps19
        go_wp2_with (go_at_call 17; refine (rPieces_any _ _ (by omega) (by omega)).mono ?_; rintro e w' ⟨rfl, rfl⟩)
        go_ret2
        exact ⟨cost_comm _, rfl⟩

theorem add_twice (x : Addr) (i j : Nat) : (x.add i).add j = x.add (i + j) := by
  unfold Addr.add
  by_cases h1 : i = 0 <;> by_cases h2 : j = 0 <;> simp [h1, h2, Nat.add_assoc]

/-- a slice of pairs that came in -/
def IsPairs (w : World) (A : Option Addr) (n c : Nat) (K V : Nat → Option Addr × Nat × Nat) : Prop :=
  n ≤ c ∧ c ≤ maxLen ∧ ((A = none ∧ c = 0) ∨ ∃ x, A = some x ∧ (0 < c → x.block < w.heap.size) ∧ ∀ i, i < n →
    w.cell? (x.add (i * 2)) = some (.slice (K i).1 (K i).2.1 (K i).2.2) ∧ w.cell? (x.add (i * 2 + 1)) = some (.slice (V i).1 (V i).2.1 (V i).2.2))
theorem IsPairs.at {w : World} {A : Option Addr} {n c : Nat} {K V : Nat → Option Addr × Nat × Nat} (h : IsPairs w A n c K V) (hn : 0 < n) : ∃ x, A = some x ∧ x.block < w.heap.size ∧ ∀ i, i < n →
    w.cell? (x.add (i * 2)) = some (.slice (K i).1 (K i).2.1 (K i).2.2) ∧ w.cell? (x.add (i * 2 + 1)) = some (.slice (V i).1 (V i).2.1 (V i).2.2) := by
  obtain ⟨hc, _, h5⟩ := h
  rcases h5 with ⟨_, h0⟩ | ⟨x, h1, h2, h3⟩
  · omega
  · exact ⟨x, h1, h2 (by omega), h3⟩
theorem IsPairs.below {w w' : World} {A : Option Addr} {n c : Nat} {K V : Nat → Option Addr × Nat × Nat} (h : IsPairs w A n c K V) (hb : Below w.heap.size w w') : IsPairs w' A n c K V := by
  obtain ⟨h1, h2, h5⟩ := h
  refine ⟨h1, h2, ?_⟩
  rcases h5 with h5 | ⟨x, e, hx, hc⟩
  · exact .inl h5
  · refine .inr ⟨x, e, fun h0 => Nat.lt_of_lt_of_le (hx h0) hb.size, fun i hi => ?_⟩
    have hlt := hx (by omega)
    exact ⟨(hb.cell (by rw [add_block]; exact hlt)).trans (hc i hi).1, (hb.cell (by rw [add_block]; exact hlt)).trans (hc i hi).2⟩

/-- the sum of the first k costs; whether none of them is refused -/
def chSum (c : Nat → Int) : Nat → Int
  | 0 => 0
  | k + 1 => chSum c k + c k
def chOk (e : Nat → Int) : Nat → Bool
  | 0 => true
  | k + 1 => chOk e k && (e k == 0)
theorem chSum_bd (c : Nat → Int) (h : ∀ i, 0 ≤ c i ∧ c i ≤ 11) : ∀ k, 0 ≤ chSum c k ∧ chSum c k ≤ 11 * k
  | 0 => by simp [chSum]
  | k + 1 => by have := chSum_bd c h k; have := h k; simp only [chSum]; omega
theorem chOk_not (e : Nat → Int) (k : Nat) (hk : e k ≠ 0) : ∀ n, k < n → chOk e n = false
  | 0, h => by omega
  | n + 1, h => by
    simp only [chOk]
    by_cases hkn : k = n
    · subst hkn
      simp [hk]
    · rw [chOk_not e k hk n (by omega)]
      rfl
def cN (K V : Nat → Option Addr × Nat × Nat) (i : Nat) : Int := costN (K i).2.1 (V i).2.1
def cE (K V : Nat → Option Addr × Nat × Nat) (i : Nat) : Int := costE (K i).2.1 (V i).2.1

def ChargeEnd (n : Nat) (K V : Nat → Option Addr × Nat × Nat) (e : Ending) : Prop :=
  e = if chOk (cE K V) n = true then .returned (.tuple #[.int .i64 (chSum (cN K V) n), .int .i64 0]) else .returned (.tuple #[.int .i64 0, .int .i64 2])
theorem chargeEnd_ok {n : Nat} {K V : Nat → Option Addr × Nat × Nat} (h : chOk (cE K V) n = true) {m : Int} (hm : m = chSum (cN K V) n) : ChargeEnd n K V (.returned (.tuple #[.int .i64 m, .int .i64 0])) := by simp [ChargeEnd, h, hm]
theorem chargeEnd_bad {n : Nat} {K V : Nat → Option Addr × Nat × Nat} (h : chOk (cE K V) n = false) {m : Int} (hm : m = 2) : ChargeEnd n K V (.returned (.tuple #[.int .i64 0, .int .i64 m])) := by simp [ChargeEnd, h, hm]

set_option maxHeartbeats 400000 in
theorem qPair_any (ka va : Option Addr) (kl kc vl vc : Nat) (w : World) :
    Calls Try.prog 30 #[.agg #[.slice ka kl kc, .slice va vl vc]] w fun e w' => e = .returned (.tuple #[.int .i64 (costN kl vl), .int .i64 (costE kl vl)]) ∧ Below w.heap.size w w' := by
  go_enter Try.func30, Try.ntmps30
  go_wp2_with (go_at_call 18; refine (qCost_any _ _ _ _ _ _ _).mono ?_; rintro e w' ⟨rfl, rfl⟩)
  go_ret2
  exact ⟨rfl, (Below.refl _ _).alloc (Nat.le_refl _) _⟩

set_option maxHeartbeats 1000000 in
theorem sumP_any (A : Option Addr) (n c : Nat) (K V : Nat → Option Addr × Nat × Nat) (w : World) (h : IsPairs w A n c K V) (hn : n ≤ 3000) :
    Calls Try.prog 29 #[.slice A n c, .func (.func 30) #[] #[]] w fun e w' => ChargeEnd n K V e ∧ Below w.heap.size w w' := by
  have H := Lib.hid h
  clear h
  go_enter Try.func29, Try.ntmps29
  go_wp2
  go_loopw [6, 13] (fun s i wr => ∃ k : Nat, k ≤ n ∧ chOk (cE K V) k = true ∧ i = .int .i64 k ∧ s = .int .i64 (chSum (cN K V) k) ∧ Below w.heap.size w wr) (fun _ i _ => n - (intOf i).toNat)
  case atStart => exact ⟨0, Nat.zero_le _, rfl, rfl, rfl, Below.refl _ _⟩
  case round =>
    obtain ⟨k, hk, hq, rfl, rfl, hbel⟩ := hrel
    have hbd := chSum_bd (cN K V) (fun i => costN_bd _ _) k
    by_cases hlt : k < n
    · obtain ⟨x, rfl, -, hx⟩ := (H.out.below hbel).at (by omega)
      obtain ⟨c0, c1⟩ := hx k hlt
      clear hx
      have hs : chSum (cN K V) (k + 1) = chSum (cN K V) k + costN (K k).2.1 (V k).2.1 := rfl
      have ha : chOk (cE K V) (k + 1) = (chOk (cE K V) k && (costE (K k).2.1 (V k).2.1 == 0)) := rfl
      have hno := chOk_not (cE K V) k
      have hE : cE K V k = costE (K k).2.1 (V k).2.1 := rfl
      rw [hE] at hno
      clear hE
      generalize K k = kk at c0 hs ha hno
      generalize V k = vv at c1 hs ha hno
      obtain ⟨ka, kl, kc⟩ := kk
      obtain ⟨va, vl, vc⟩ := vv
      simp only at c0 c1 hs ha hno
      rw [← add_twice] at c1
      have c1' : wr.cell? ⟨(x.add (k * 2)).block, (x.add (k * 2)).off + 1, none⟩ = some (.slice va vl vc) := c1
      clear c1
      have hor := costE_or kl vl
      have hcn := costN_bd kl vl
      have HS := Lib.hid hs
      have HA := Lib.hid ha
      have HNO := Lib.hid hno
      have HQ := Lib.hid hq
      have HB := Lib.hid hbel
      clear hs ha hno hq hbel
      go_wp2_with fail
      refine (qPair_any ka va kl kc vl vc _).mono ?_
      rintro e w1 ⟨rfl, hb1⟩
      have HB1 := Lib.hid ((HB.out.alloc HB.out.size _).trans (hb1.mono (by have := HB.out.size; simp; omega)))
      clear hb1
      rcases hor with hor | hor
      · have HO := Lib.hid hor
        rw [hor]
        clear hor
        go_wp2
        go_roundw
        case rel => exact ⟨k + 1, by omega, by rw [HA.out, HQ.out, HO.out]; rfl, by go_num, by rw [HS.out], HB1.out⟩
        case measure => simp [intOf]; omega
      · have HO := Lib.hid hor
        rw [hor]
        clear hor
        go_wp2
        go_ret2
        exact ⟨chargeEnd_bad (HNO.out (by rw [HO.out]; decide) n hlt) rfl, HB1.out⟩
    · have HQ := Lib.hid hq
      clear hq
      have e1 : k = n := by omega
      subst e1
      go_wp2
      go_ret2
      exact ⟨chargeEnd_ok HQ.out rfl, hbel⟩


theorem qCharge_any (A : Option Addr) (n c : Nat) (K V : Nat → Option Addr × Nat × Nat) (w : World) (h : IsPairs w A n c K V) (hn : n ≤ 3000) :
    Calls Try.prog 20 #[.slice A n c] w fun e w' => ChargeEnd n K V e ∧ Below w.heap.size w w' := by
  cases hok : chOk (cE K V) n
  · have HOK := Lib.hid hok
    clear hok
    go_enter Try.func20, Try.ntmps20
    go_wp2_with fail
    refine (sumP_any _ _ _ K V _ h hn).mono ?_
    rintro e w1 ⟨he, hb⟩
    unfold ChargeEnd at he
    rw [HOK.out] at he
    subst he
    go_wp2
    go_ret2
    exact ⟨chargeEnd_bad HOK.out rfl, hb⟩
  · have HOK := Lib.hid hok
    clear hok
    go_enter Try.func20, Try.ntmps20
    go_wp2_with fail
    refine (sumP_any _ _ _ K V _ h hn).mono ?_
    rintro e w1 ⟨he, hb⟩
    unfold ChargeEnd at he
    rw [HOK.out] at he
    subst he
    go_wp2
    go_ret2
    exact ⟨chargeEnd_ok HOK.out rfl, hb⟩

set_option maxHeartbeats 1000000 in
theorem rCharge_any (A : Option Addr) (n c : Nat) (K V : Nat → Option Addr × Nat × Nat) (w : World) (h : IsPairs w A n c K V) (hn : n ≤ 3000) :
    Calls Try.prog 21 #[.slice A n c] w fun e w' => ChargeEnd n K V e ∧ Below w.heap.size w w' := by
  have H := Lib.hid h
  clear h
  go_enter Try.func21, Try.ntmps21
  go_wp2
  go_loopw [4, 5] (fun s i wr => ∃ k : Nat, k ≤ n ∧ chOk (cE K V) k = true ∧ i = .int .i64 k ∧ s = .int .i64 (chSum (cN K V) k) ∧ Below w.heap.size w wr) (fun _ i _ => n - (intOf i).toNat)
  case atStart => exact ⟨0, Nat.zero_le _, rfl, rfl, rfl, Below.refl _ _⟩
  case round =>
    obtain ⟨k, hk, hq, rfl, rfl, hbel⟩ := hrel
    have hbd := chSum_bd (cN K V) (fun i => costN_bd _ _) k
    by_cases hlt : k < n
    · obtain ⟨x, rfl, -, hx⟩ := (H.out.below hbel).at (by omega)
      obtain ⟨c0, c1⟩ := hx k hlt
      clear hx
      have hs : chSum (cN K V) (k + 1) = chSum (cN K V) k + costN (K k).2.1 (V k).2.1 := rfl
      have ha : chOk (cE K V) (k + 1) = (chOk (cE K V) k && (costE (K k).2.1 (V k).2.1 == 0)) := rfl
      have hno := chOk_not (cE K V) k
      have hE : cE K V k = costE (K k).2.1 (V k).2.1 := rfl
      rw [hE] at hno
      clear hE
      generalize K k = kk at c0 hs ha hno
      generalize V k = vv at c1 hs ha hno
      obtain ⟨ka, kl, kc⟩ := kk
      obtain ⟨va, vl, vc⟩ := vv
      simp only at c0 c1 hs ha hno
      rw [← add_twice] at c1
      have c1' : wr.cell? ⟨(x.add (k * 2)).block, (x.add (k * 2)).off + 1, none⟩ = some (.slice va vl vc) := c1
      clear c1
      have hor := costE_or kl vl
      have hcn := costN_bd kl vl
      have HS := Lib.hid hs
      have HA := Lib.hid ha
      have HNO := Lib.hid hno
      have HQ := Lib.hid hq
      have HB := Lib.hid hbel
      clear hs ha hno hq hbel
      rcases hor with hor | hor
      · have HO := Lib.hid hor
        clear hor
        go_wp2_with fail
        go_quiet ((go_at_call 19; exact Calls.quiet_of_same ((rCost_any ka va kl kc vl vc _).mono fun e w' h => ⟨h.1, h.2.symm⟩)))
        rw [HO.out]
        go_wp2
        go_roundw
        case rel => exact ⟨k + 1, by omega, by rw [HA.out, HQ.out, HO.out]; rfl, by go_num, by rw [HS.out], below_dn HB.out _⟩
        case measure => simp [intOf]; omega
      · have HO := Lib.hid hor
        clear hor
        go_wp2_with fail
        go_quiet ((go_at_call 19; exact Calls.quiet_of_same ((rCost_any ka va kl kc vl vc _).mono fun e w' h => ⟨h.1, h.2.symm⟩)))
        rw [HO.out]
        go_wp2
        go_ret2
        exact ⟨chargeEnd_bad (HNO.out (by rw [HO.out]; decide) n hlt) rfl, below_dn HB.out _⟩
    · have HQ := Lib.hid hq
      clear hq
      have e1 : k = n := by omega
      subst e1
      go_wp2
      go_ret2
      exact ⟨chargeEnd_ok HQ.out rfl, hbel⟩

end Go.Proofs.Ytlbpddkhfoddkaa
