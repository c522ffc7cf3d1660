/-
  CAPS: CapsFew: the plain law, the walk.
-/
import Derived.Test.YtdkdkjglbnlmcaaCaF
namespace Go.Proofs.Ytdkdkjglbnlmcaa
open Go.RowKit
set_option linter.unusedVariables false

/-- so many handles with all rights, each given by the last one, or by the first -/
def fewL (b : Bool) (n : Nat) : HL := (List.range n).map fun j => ⟨15, if j = 0 then 0 else (bif b then j else 1), true⟩
theorem fewL_len (b : Bool) (n : Nat) : (fewL b n).length = n := by simp [fewL]
theorem fewL_succ (b : Bool) (n : Nat) (hn : 0 < n) : fewL b (n + 1) = fewL b n ++ [⟨15, bif b then n else 1, true⟩] := by
  unfold fewL
  rw [List.range_succ, List.map_append, List.map_cons, List.map_nil, if_neg (by omega)]
theorem fewL_at {b : Bool} {n k : Nat} (h1 : 1 ≤ k) (h2 : k ≤ n) : atH (fewL b n) k = some ⟨15, if k = 1 then 0 else (bif b then k - 1 else 1), true⟩ := by
  rw [atH_some]
  refine ⟨h1, ?_, rfl⟩
  unfold fewL
  rw [List.getElem?_map, List.getElem?_range (by omega)]
  have e : (k - 1 = 0) ↔ k = 1 := by omega
  simp [e]
theorem fewL_out {b : Bool} {n k : Nat} (h : k = 0 ∨ n < k) : atH (fewL b n) k = none := by
  cases e : atH (fewL b n) k with
  | none => rfl
  | some x =>
    have := atH_le e
    rw [fewL_len] at this
    omega
theorem few_alive (b : Bool) (n : Nat) : (aliveH (fewL b n)).length = n := by
  have h : (aliveH (fewL b n)).Perm (List.range' 1 n) := (List.perm_ext_iff_of_nodup (aliveH_nodup _) List.nodup_range').2 fun k => by
    rw [aliveH_mem, List.mem_range'_1]
    by_cases h1 : 1 ≤ k ∧ k ≤ n
    · rw [fewL_at h1.1 h1.2]; simp; omega
    · rw [fewL_out (by omega)]; simp; omega
  rw [h.length_eq, List.length_range']
theorem few_up (b : Bool) (n k : Nat) : upH (fewL b n) k = if 2 ≤ k ∧ k ≤ n then (bif b then k - 1 else 1) else 0 := by
  unfold upH
  by_cases h1 : 1 ≤ k ∧ k ≤ n
  · rw [fewL_at h1.1 h1.2]
    by_cases h2 : k = 1
    · simp [h2]
    · simp [h2, show 2 ≤ k ∧ k ≤ n by omega]
  · rw [fewL_out (by omega), if_neg (by omega)]
theorem few_chain (n h : Nat) : ∀ m k, k ≤ m → k ≤ n → (belowF m (fewL true n) h k = true ↔ 1 ≤ h ∧ h < k)
  | 0, k, h1, _ => by
    have : k = 0 := by omega
    subst this
    simp [belowF]
  | m + 1, k, h1, h2 => by
    simp only [belowF, few_up, cond_true]
    by_cases h3 : 2 ≤ k
    · have ih := few_chain n h m (k - 1) (by omega) (by omega)
      rw [if_pos ⟨h3, h2⟩]
      simp only [Bool.and_eq_true, bne_iff_ne, ne_eq, Bool.or_eq_true, beq_iff_eq, ih]
      omega
    · rw [if_neg (by omega)]
      simp
      omega
theorem few_star (n h : Nat) : ∀ m k, k ≤ m → k ≤ n → (belowF m (fewL false n) h k = true ↔ h = 1 ∧ 2 ≤ k)
  | 0, k, h1, _ => by
    have : k = 0 := by omega
    subst this
    simp [belowF]
  | m + 1, k, h1, h2 => by
    simp only [belowF, few_up, cond_false]
    by_cases h3 : 2 ≤ k
    · have ih := few_star n h m 1 (by omega) (by omega)
      rw [if_pos ⟨h3, h2⟩]
      simp only [Bool.and_eq_true, bne_iff_ne, ne_eq, Bool.or_eq_true, beq_iff_eq, ih]
      omega
    · rw [if_neg (by omega)]
      simp
      omega
theorem few_below {b : Bool} {h k : Nat} (hh : 1 ≤ h ∧ h ≤ 64) (hk : k ≤ 64) : belowH (fewL b 64) h k = true ↔ (bif b then decide (h < k) else decide (h = 1 ∧ 2 ≤ k)) = true := by
  unfold belowH
  rw [fewL_at hh.1 hh.2, fewL_len, Option.isSome_some, Bool.true_and]
  cases b
  · rw [few_star 64 h 64 k hk hk]; simp
  · rw [few_chain 64 h 64 k hk hk]; simp; omega
theorem few_give {b : Bool} {n : Nat} (h1 : 1 ≤ n) (h2 : n < 64) : giveH (fewL b n) (bif b then n else 1) 15 = ((n + 1, 0), fewL b (n + 1)) := by
  unfold giveH
  rw [fewL_at (by cases b <;> simp <;> omega) (by cases b <;> simp <;> omega)]
  have e : (noGive 15 || overR 15 15) = false := by decide
  simp only [e, cond_false]
  unfold putH
  rw [few_alive, if_neg (by omega), fewL_len, fewL_succ b n h1]
theorem few_full (b : Bool) : putH (fewL b 64) 15 0 = ((0, 9), fewL b 64) := by
  unfold putH
  rw [few_alive, if_pos (Nat.le_refl _)]
theorem few_full2 (b : Bool) : giveH (fewL b 64) 1 0 = ((0, 9), fewL b 64) := by
  unfold giveH
  rw [fewL_at (by omega) (by omega)]
  have e : (noGive 15 || overR 0 15) = false := by decide
  simp only [e, cond_false]
  unfold putH
  rw [few_alive, if_pos (Nat.le_refl _)]
def leftN (b : Bool) (v : Nat) : Nat := bif b then v - 1 else 63
theorem few_left {b : Bool} {v : Nat} (h1 : 2 ≤ v) (h2 : v ≤ 64) : (aliveH (killH (fewL b 64) v)).length = leftN b v := by
  have hm : ∀ k, k ∈ aliveH (killH (fewL b 64) v) ↔ 1 ≤ k ∧ k ≤ 64 ∧ (bif b then decide (k < v) else decide (k ≠ v)) = true := fun k => by
    rw [aliveH_mem, atH_kill]
    by_cases h3 : 1 ≤ k ∧ k ≤ 64
    · rw [fewL_at h3.1 h3.2]
      have h4 := few_below (b := b) (h := v) (k := k) ⟨by omega, h2⟩ h3.2
      have e : (decide (k = v) || belowH (fewL b 64) v k) = true ↔ ¬ (bif b then decide (k < v) else decide (k ≠ v)) = true := by
        rw [Bool.or_eq_true, h4]
        cases b <;> simp <;> omega
      cases hq : (decide (k = v) || belowH (fewL b 64) v k)
      · rw [hq] at e
        have h5 : (bif b then decide (k < v) else decide (k ≠ v)) = true := by
          cases h6 : (bif b then decide (k < v) else decide (k ≠ v))
          · rw [h6] at e; simp at e
          · rfl
        rw [if_neg (by decide)]
        exact ⟨fun _ => ⟨h3.1, h3.2, h5⟩, fun _ => rfl⟩
      · rw [hq] at e
        rw [if_pos rfl]
        exact ⟨fun h => (by cases h), fun h => absurd h.2.2 (e.1 rfl)⟩
    · rw [fewL_out (by omega)]
      simp
      omega
  cases b
  · have hp : (v :: aliveH (killH (fewL false 64) v)).Perm (List.range' 1 64) := by
      refine (List.perm_ext_iff_of_nodup (List.nodup_cons.2 ⟨fun h => ?_, aliveH_nodup _⟩) List.nodup_range').2 fun k => ?_
      · have := (hm v).1 h
        simp at this
      · rw [List.mem_cons, hm, List.mem_range'_1]
        simp
        omega
    have := hp.length_eq
    rw [List.length_cons, List.length_range'] at this
    unfold leftN
    simp
    omega
  · have hp : (aliveH (killH (fewL true 64) v)).Perm (List.range' 1 (v - 1)) := by
      refine (List.perm_ext_iff_of_nodup (aliveH_nodup _) List.nodup_range').2 fun k => ?_
      rw [hm, List.mem_range'_1]
      simp
      omega
    rw [hp.length_eq, List.length_range']
    rfl
theorem few_revoke {b : Bool} {v : Nat} (h1 : 2 ≤ v) (h2 : v ≤ 64) : revokeH (fewL b 64) 1 v = (0, killH (fewL b 64) v) := by
  unfold revokeH
  rw [fewL_at (by omega) (by omega), fewL_at (b := b) (n := 64) (k := v) (by omega) h2]
  have e : ∀ u, mayRv (fewL b 64) ⟨15, u, true⟩ 1 v = true := fun u => by
    unfold mayRv
    have h3 : belowH (fewL b 64) 1 v = true := (few_below ⟨by omega, by omega⟩ h2).2 (by cases b <;> simp <;> omega)
    have h4 : noGive 15 = false := by decide
    rw [h3, h4]
    simp
  simp only [e, cond_true]
theorem few_again {b : Bool} {v : Nat} (h1 : 2 ≤ v) (h2 : v ≤ 64) : ∃ L, putH (killH (fewL b 64) v) 15 0 = ((65, 0), L) ∧ (aliveH L).length = leftN b v + 1 ∧ L.length = 65 := by
  have hl : leftN b v ≤ 63 := by unfold leftN; cases b <;> simp <;> omega
  unfold putH
  rw [few_left h1 h2, if_neg (by omega), killH_len, fewL_len]
  exact ⟨_, rfl, by rw [aliveH_snoc, List.length_append, List.length_singleton, few_left h1 h2], by rw [List.length_append, killH_len, fewL_len]; rfl⟩
theorem few_right (b : Bool) : RightA (fewL b 64) := by
  refine ⟨fun i x h => ?_, fun i x h hon h0 => ?_⟩
  · unfold fewL at h
    rw [List.getElem?_map, Option.map_eq_some_iff] at h
    obtain ⟨j, hj, rfl⟩ := h
    have hj2 := List.getElem?_eq_some_iff.1 hj
    obtain ⟨q1, q2⟩ := hj2
    simp at q2
    show (if j = 0 then 0 else (bif b then j else 1)) ≤ i
    split <;> cases b <;> simp <;> omega
  · unfold fewL at h
    rw [List.getElem?_map, Option.map_eq_some_iff] at h
    obtain ⟨j, hj, rfl⟩ := h
    obtain ⟨q1, q2⟩ := List.getElem?_eq_some_iff.1 hj
    simp at q1 q2
    simp only at h0 ⊢
    rw [fewL_at (by omega) (by split <;> cases b <;> simp <;> omega)]
    rfl
theorem few_victim (z : Int) : ∃ v : Nat, 2 ≤ v ∧ v ≤ 64 ∧ IntKind.u64.wrap (2 + (IntKind.u64.wrap z).tmod 63) = (v : Int) := by
  have h0 : 0 ≤ IntKind.u64.wrap z := by
    show 0 ≤ z % 18446744073709551616
    omega
  have h1 : (IntKind.u64.wrap z).tmod 63 = IntKind.u64.wrap z % 63 := Int.tmod_eq_emod_of_nonneg h0
  refine ⟨(2 + IntKind.u64.wrap z % 63).toNat, by omega, by omega, ?_⟩
  rw [h1, show (2 + IntKind.u64.wrap z % 63) = (((2 + IntKind.u64.wrap z % 63).toNat : Nat) : Int) by omega]
  exact wide_u64 _ (by omega)
theorem CpA.isMap25 {w : World} {B c : Nat} {mo : Option Nat} {A : HL} (h : CpA w B c mo A) {m : Nat} (hm : mo = some m) : B ≤ m := by
  obtain ⟨⟨l, h1, _⟩, _⟩ := h
  exact (h1.map m hm).1
theorem fewL_one (b : Bool) : (putH [] 15 0) = ((1, 0), fewL b 1) := by cases b <;> rfl
set_option maxRecDepth 100000 in
set_option maxHeartbeats 4000000 in
theorem cfew_any (b : Bool) (z : Int) (w : World) : Calls Try.prog 3 #[.bool b, .int .i64 z] w fun e w' => e = .returned (.bool true) ∧ Below w.heap.size w w' := by
  have KN := Lib.hid fun W => known25_any W
  go_enter Try.func3, Try.ntmps3
  go_wp2_with fail
  refine (capsNew_any w).mono ?_
  rintro e w1 ⟨rfl, hc, hb⟩
  have C1 : Hid (CpA w1 w.heap.size w.heap.size none []) := Lib.hid ⟨⟨[], hc, fun k => by simp [getC, atH, nthH], by simp⟩, RightA.nil, by simp [aliveH, aliveF]⟩
  have B1 := Lib.hid hb
  have K1 := Lib.hid (attachA_any C1.out (by decide))
  rw [fewL_one b] at K1
  clear hc hb
  go_wp2_with fail
  refine K1.out.mono ?_
  rintro e w2 ⟨rfl, mo2, hc2, hf2, _⟩
  have C2 := Lib.hid hc2
  have B2 : Hid (Below w.heap.size w w2) := Lib.hid (B1.out.trans (Fr.below hf2 (fun k hk => by
    rcases hk with rfl | hk
    · exact Nat.le_refl _
    · cases hk) (Below.refl _ _) (Nat.le_trans (Nat.le_refl _) B1.out.size)))
  clear hc2 hf2 K1 C1 B1
  go_wp2_with fail
  go_loopw [8, 9] (fun zb z wr => ∃ (i : Nat) (mo : Option Nat), 1 ≤ i ∧ i ≤ 64 ∧ z = .int .i64 (i : Int) ∧ zb = .int .u64 ((bif b then i else 1 : Nat) : Int) ∧ CpA wr w.heap.size w.heap.size mo (fewL b i) ∧ Below w.heap.size w wr) (fun _ z _ => 64 - (intOf z).toNat)
  case atStart => exact ⟨1, mo2, Nat.le_refl _, by decide, rfl, by cases b <;> rfl, C2.out, B2.out⟩
  case round =>
    obtain ⟨i, mo, hi1, hi2, rfl, rfl, hc, hb⟩ := hrel
    have HC := Lib.hid hc
    have HB := Lib.hid hb
    by_cases hlt : i < 64
    · have hlti : (i : Int) < 64 := by omega
      have HLT := Lib.hid hlt
      have H1 := Lib.hid hi1
      have KG := Lib.hid (giveA_any (bif b then i else 1) 15 hc (by unfold u64Ok; cases b <;> simp <;> omega) (by rw [fewL_len]; omega))
      rw [few_give hi1 hlt] at KG
      try simp only at KG
      obtain ⟨i1, hi⟩ : ∃ i1, i1 = i + 1 := ⟨_, rfl⟩
      rw [← hi] at KG
      have hw1 : IntKind.u64.wrap ((i : Int) + 1) = (i1 : Int) := by rw [hi]; exact wide_u64 (i + 1) (by omega)
      have hw2 : (i : Int) + 1 = (i1 : Int) := by omega
      have HI := Lib.hid hi
      clear hc hb hi1 hi2 hlt hi
      cases b
      all_goals
        try simp only [cond_false, cond_true] at KG
        try simp only [cond_false, cond_true]
        go_wp2_with fail
        refine KG.out.mono ?_
        rintro e w3 ⟨rfl, mo3, hc3, hf3, _⟩
        have C3 := Lib.hid hc3
        have B3 : Hid (Below w.heap.size w w3) := Lib.hid (HB.out.trans (Fr.below hf3 (fun k hk => by
          rcases hk with rfl | hk
          · exact Nat.le_refl _
          · exact (HC.out.isMap25 hk)) (Below.refl _ _) HB.out.size))
        clear hc3 hf3 KG
        go_wp2_with fail
        go_roundw
        case rel => exact ⟨i1, mo3, by have := HI.out; omega, by have := HI.out; have := HLT.out; omega, by go_num, rfl, C3.out, B3.out⟩
        case measure => simp [intOf]; have := HI.out; have := HLT.out; omega
    · obtain rfl : i = 64 := by omega
      have K1 := Lib.hid (attachA_any hc (by rw [fewL_len]; decide))
      rw [few_full b] at K1
      have KR := Lib.hid fun W mo' (hW : CpA W w.heap.size w.heap.size mo' (fewL b 64)) => giveA_any 1 0 hW (by unfold u64Ok; decide) (by rw [fewL_len]; decide)
      rw [few_full2 b] at KR
      clear hc hb hi1 hi2 hlt
      go_wp2_with fail
      refine K1.out.mono ?_
      rintro e w3 ⟨rfl, mo3, hc3, hf3, _⟩
      have C3 := Lib.hid hc3
      have B3 : Hid (Below w.heap.size w w3) := Lib.hid (HB.out.trans (Fr.below hf3 (fun k hk => by
        rcases hk with rfl | hk
        · exact Nat.le_refl _
        · exact (HC.out.isMap25 hk)) (Below.refl _ _) HB.out.size))
      clear hc3 hf3 K1
      go_wp2_with fail
      refine (KR.out _ _ C3.out).mono ?_
      rintro e w4 ⟨rfl, mo4, hc4, hf4, _⟩
      have C4 := Lib.hid hc4
      have B4 : Hid (Below w.heap.size w w4) := Lib.hid (B3.out.trans (Fr.below hf4 (fun k hk => by
        rcases hk with rfl | hk
        · exact Nat.le_refl _
        · exact (C3.out.isMap25 hk)) (Below.refl _ _) B3.out.size))
      clear hc4 hf4 KR C3 B3 HC HB
      go_wp2_with fail
      obtain ⟨v, hv1, hv2, hE⟩ := few_victim z
      rw [hE]
      have KV := Lib.hid (revokeA_any (h := 1) (v := v) C4.out (by unfold u64Ok; decide) (by unfold u64Ok; omega) (by rw [fewL_len]; decide))
      rw [few_revoke hv1 hv2] at KV
      try simp only at KV
      obtain ⟨L, hL1, hL2, hL3⟩ := few_again (b := b) hv1 hv2
      have L1 := Lib.hid hL1
      have L2 := Lib.hid hL2
      have L3 := Lib.hid hL3
      have V1 := Lib.hid hv1
      have V2 := Lib.hid hv2
      have hvi : (v : Int) ≤ 64 := by omega
      have hv0 : (2 : Int) ≤ (v : Int) := by omega
      clear hE hL1 hL2 hL3 hv1 hv2
      refine KV.out.mono ?_
      rintro e w5 ⟨rfl, mo5, hc5, hf5, _⟩
      have C5 := Lib.hid hc5
      have B5 : Hid (Below w.heap.size w w5) := Lib.hid (B4.out.trans (Fr.below hf5 (fun k hk => by
        rcases hk with rfl | hk
        · exact Nat.le_refl _
        · exact (C4.out.isMap25 hk)) (Below.refl _ _) B4.out.size))
      have K6 := Lib.hid (attachA_any C5.out (by rw [killH_len, fewL_len]; decide))
      rw [L1.out] at K6
      try simp only at K6
      clear hc5 hf5 KV C4 B4
      cases b
      all_goals
        unfold leftN at L2
        try simp only [cond_false, cond_true] at L2
        go_wp2_with fail
        refine K6.out.mono ?_
        rintro e w6 ⟨rfl, mo6, hc6, hf6, _⟩
        have C6 := Lib.hid hc6
        have B6 : Hid (Below w.heap.size w w6) := Lib.hid (B5.out.trans (Fr.below hf6 (fun k hk => by
          rcases hk with rfl | hk
          · exact Nat.le_refl _
          · exact (C5.out.isMap25 hk)) (Below.refl _ _) B5.out.size))
        have K7 := Lib.hid (aliveA_any hc6 (by rw [L3.out]; decide))
        clear hc6 hf6 K6 C5 B5
        go_wp2_with fail
        refine K7.out.mono ?_
        rintro e w7 ⟨la, rfl, hla, hb⟩
        have B7 := Lib.hid (below_tr B6.out hb B6.out.size)
        obtain ⟨A1, c1, hs⟩ := row_shape hla
        rw [L2.out] at hs
        subst hs
        have hcast : (((v - 1 + 1 : Nat)) : Int) = (v : Int) := by have := V1.out; omega
        clear hla hb K7
        go_wp2_with fail
        refine (KN.out _).mono ?_
        rintro e w8 ⟨rfl, hb⟩
        have B8 := Lib.hid (below_tr B7.out hb B7.out.size)
        clear hb
        go_wp2_with fail
        go_ret
        exact ⟨rfl, B8.out⟩
theorem cfew_walk (b : Bool) (z : Int) (w : World) (hz : (Lit.int .i64 z).wf = true) : Calls Try.prog 3 #[.bool b, .int .i64 z] w fun e w' => e = .returned (.bool true) ∧ Below w.heap.size w w' := cfew_any b z w
end Go.Proofs.Ytdkdkjglbnlmcaa
