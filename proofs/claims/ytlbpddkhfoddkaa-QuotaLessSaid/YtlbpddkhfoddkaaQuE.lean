/-
  WALK: QuotaLess returns true.
-/
import Derived.Test.YtlbpddkhfoddkaaQuD
import Derived.Deep.RegionLaw
import Derived.Deep.RegionWith
namespace Go.Proofs.Ytlbpddkhfoddkaa
open Go.RowKit

theorem fitsEnd_eq {blocks : Int} {zs : List Int} {e : Ending} (h : FitsEnd blocks zs e) (hn : zs.length ≤ 64) (hq : allQ zs = true) {b : Bool} (hb : decide (8 * (zs.length : Int) + 4 + sumQ zs ≤ blocks) = b) : e = .returned (.tuple #[.bool b, .int .i64 0]) := by
  unfold FitsEnd at h
  rw [if_pos ⟨hn, hq⟩, hb] at h
  exact h

theorem sumQ_app (xs ys : List Int) : sumQ (xs ++ ys) = sumQ xs + sumQ ys := by simp [sumQ]
theorem del_mem {zs : List Int} {m : Nat} {z : Int} (h : z ∈ zs.take m ++ zs.drop (m + 1)) : z ∈ zs := by
  rcases List.mem_append.1 h with h | h
  · exact List.mem_of_mem_take h
  · exact List.mem_of_mem_drop h
theorem allQ_del {zs : List Int} (h : allQ zs = true) (m : Nat) : allQ (zs.take m ++ zs.drop (m + 1)) = true := by
  refine List.all_eq_true.2 fun z hz => List.all_eq_true.1 h z (del_mem hz)
theorem allQ_drop {zs : List Int} (h : allQ zs = true) (m : Nat) : allQ (zs.drop m) = true := List.all_eq_true.2 fun z hz => List.all_eq_true.1 h z (List.mem_of_mem_drop hz)
theorem sumQ_del {zs : List Int} (h : allQ zs = true) (m : Nat) : sumQ (zs.take m ++ zs.drop (m + 1)) ≤ sumQ zs := by
  have e : sumQ zs = sumQ (zs.take m) + sumQ (zs.drop m) := by rw [← sumQ_app, List.take_append_drop]
  rw [sumQ_app, e]
  have h2 : sumQ (zs.drop (m + 1)) ≤ sumQ (zs.drop m) := by
    have h3 := allQ_drop h m
    rw [← List.drop_drop]
    cases hd : zs.drop m with
    | nil => simp
    | cons z r =>
      rw [hd] at h3
      simp only [allQ, List.all_cons, Bool.and_eq_true, quotaB, decide_eq_true_eq] at h3
      simp [sumQ]
      omega
  omega

theorem pick_lt (a : Int) (n : Nat) (h0 : 0 < n) (h1 : n ≤ 64) : ∃ m : Nat, wrap64 ((IntKind.u64.wrap a).tmod (n : Int)) = (m : Int) ∧ m < n := by
  have hu : 0 ≤ IntKind.u64.wrap a := by rw [IntKind.wrap_u64]; omega
  rw [Int.tmod_eq_emod_of_nonneg hu]
  generalize IntKind.u64.wrap a = b at hu
  have h2 := Int.emod_nonneg b (b := (n : Int)) (by omega)
  have h3 := Int.emod_lt_of_pos b (b := (n : Int)) (by omega)
  refine ⟨(b % (n : Int)).toNat, ?_, by omega⟩
  rw [IntWalk.wrap64_in _ (by omega)]
  omega

set_option maxHeartbeats 2000000 in
theorem less_any (at0 : Int) (A : Option Addr) (n c : Nat) (zs : List Int) (w : World) (h : IsRow .i64 w A n c zs) :
    Calls Try.prog 8 #[.slice A n c, .int .i64 at0] w fun e w' => e = .returned (.bool true) ∧ Below w.heap.size w w' := by
  have hl := Lib.hid h.len
  have hcap := h.capMax
  have hlc := h.lenCap
  have H := Lib.hid h
  clear h
  by_cases hn : n ≤ 64
  · go_enter Try.func8, Try.ntmps8
    go_wp2_with (go_at_call 14; refine (qD_ok _ _ (by omega) (by omega)).mono ?_; rintro e w' ⟨rfl, rfl⟩)
    go_loop [5, 7] (fun s i => ∃ k : Nat, k ≤ n ∧ allQ (zs.take k) = true ∧ i = .int .i64 k ∧ s = .int .i64 (8 * n + 4 + sumQ (zs.take k))) (fun _ i => n - (intOf i).toNat)
    case atStart => exact ⟨0, Nat.zero_le _, by simp [allQ], rfl, by simp [sumQ]⟩
    case round =>
      obtain ⟨k, hk, hq, rfl, rfl⟩ := hrel
      have hbd := sumQ_bd _ hq
      have hkl : (zs.take k).length = k := by have := hl.out; simp; omega
      rw [hkl] at hbd
      clear hkl
      by_cases hlt : k < n
      · obtain ⟨x, rfl, -, hc⟩ := H.out.at (by omega)
        have hck := hc k hlt
        clear hc
        have hs := sumQ_take_succ zs k (by rw [hl.out]; exact hlt)
        have ha' := allQ_take_succ zs k (by rw [hl.out]; exact hlt)
        have e0 : zs.getD k 0 = zs[k]?.getD 0 := by simp [List.getD]
        rw [e0] at hck
        clear e0
        generalize zs[k]?.getD 0 = q at hck hs ha'
        have HS := Lib.hid hs
        have HA := Lib.hid ha'
        have HQ := Lib.hid hq
        clear hs ha' hq
        rcases three q 1 1000 with h1 | ⟨h0, h1⟩ | ⟨h0, h1, h2⟩
        · go_wp2_with first | (go_at_call 13; refine (qR_bad _ _ (by omega)).mono ?_; rintro e w' ⟨rfl, rfl⟩) | (go_at_call 15; refine (rQuota_bad _ _ (by omega)).mono ?_; rintro e w' ⟨rfl, rfl⟩) | (go_at_call 11; refine (known_any _).mono ?_; rintro e w' ⟨rfl, hb⟩)
          go_ret
          exact ⟨rfl, hb⟩
        · go_wp2_with first | (go_at_call 13; refine (qR_bad _ _ (by omega)).mono ?_; rintro e w' ⟨rfl, rfl⟩) | (go_at_call 15; refine (rQuota_bad _ _ (by omega)).mono ?_; rintro e w' ⟨rfl, rfl⟩) | (go_at_call 11; refine (known_any _).mono ?_; rintro e w' ⟨rfl, hb⟩)
          go_ret
          exact ⟨rfl, hb⟩
        · go_wp2_with (go_at_call 13; refine (qR_ok _ _ (by omega) (by omega)).mono ?_; rintro e w' ⟨rfl, rfl⟩)
          go_round
          case rel => exact ⟨k + 1, by omega, by rw [HA.out, HQ.out, quotaB_yes (by omega) (by omega)]; rfl, by go_num, by rw [HS.out]; go_num⟩
          case measure => simp [intOf]; omega
      · have e1 : zs.take k = zs := List.take_of_length_le (by rw [hl.out]; omega)
        rw [e1] at hq hbd
        have HQ := Lib.hid hq
        have HE := Lib.hid e1
        clear hq e1
        have hln := hl.out
        rw [HE.out]
        go_wp2_with fail
        refine (qFits_any _ _ _ _ zs _ H.out).mono ?_; rintro e w' ⟨he, rfl⟩
        have he' := fitsEnd_eq (b := true) he (by omega) HQ.out (by rw [hl.out]; simp)
        subst he'
        clear he
        go_wp2_with fail
        refine (qFits_any _ _ _ _ zs _ H.out).mono ?_; rintro e w' ⟨he, rfl⟩
        have he' := fitsEnd_eq (b := false) he (by omega) HQ.out (by rw [hl.out]; simp; omega)
        subst he'
        clear he
        go_wp2_with fail
        refine (qFits_any _ _ _ _ zs _ H.out).mono ?_; rintro e w' ⟨he, rfl⟩
        have he' := fitsEnd_eq (b := true) he (by omega) HQ.out (by rw [hl.out]; simp; omega)
        subst he'
        clear he
        by_cases hn0 : n = 0
        · subst hn0
          go_wp2_with (go_at_call 11; refine (known_any _).mono ?_; rintro e w' ⟨rfl, hb⟩)
          go_ret
          exact ⟨rfl, hb⟩
        · obtain ⟨m, hm, hmn⟩ := pick_lt at0 n (by omega) (by omega)
          have hn1 : ((n : Int) == 0) = false := by simp; omega
          obtain ⟨x, rfl, -, -⟩ := H.out.at (by omega)
          have hmc : m ≤ c := by omega
          have hm1 : m + 1 ≤ n := hmn
          have hm2 : m + 1 ≤ c := by omega
          have hm3 : (m : Int) + 1 ≤ (n : Int) := by omega
          have hmi : IntKind.i64.wrap ((m : Int) + 1) = (m : Int) + 1 := IntWalk.i64_in _ (by omega)
          have hm0 : (0 : Int) ≤ (m : Int) + 1 := by omega
          have hmt : ((m : Int) + 1).toNat = m + 1 := by omega
          obtain ⟨i0, hi, hz0, hz1, hz2⟩ := info_parts infoI64
          have HM := Lib.hid hm
          have hz' : (zs.take m ++ zs.drop (m + 1)).length = n - 1 := by have := hl.out; simp; omega
          have hq' := allQ_del HQ.out m
          have hs' := sumQ_del HQ.out m
          have HL' := Lib.hid hz'
          have HQ' := Lib.hid hq'
          have HS' := Lib.hid hs'
          clear hz' hq' hs'
          have HT := Lib.hid (H.out.take (m := m) (by omega))
          have HD := Lib.hid (H.out.drop (m := m + 1) (by omega))
          have hw' : ∀ z ∈ zs.take m ++ zs.drop (m + 1), (Lit.int .i64 z).wf = true := fun z hz => H.out.wf z (del_mem hz)
          have HW := Lib.hid hw'
          clear hw'
          have hfin : ∀ B e, 8 * (n : Int) + 4 + sumQ zs ≤ B → FitsEnd B (zs.take m ++ zs.drop (m + 1)) e → e = .returned (.tuple #[.bool true, .int .i64 0]) := fun B e hB he =>
            fitsEnd_eq he (by rw [HL'.out]; omega) HQ'.out (by have := HS'.out; rw [HL'.out]; simp; omega)
          have HF := Lib.hid hfin
          have HO := Lib.hid (World.ownsRow.drew (own_lit w 3 .i64 w.heap.size (Nat.le_refl _) [] (Nat.zero_le _)))
          clear hfin
          by_cases hc1 : c = m + 1
          · have hD2 := HD.out
            rw [if_pos hc1] at hD2
            have HD2 := Lib.hid hD2
            clear hD2
            obtain rfl : n = m + 1 := by omega
            subst hc1
            clear hm hmn
            have hm' : wrap64 ((IntKind.u64.wrap at0).tmod ((m : Int) + 1)) = (m : Int) := by
              have h := HM.out
              rw [show ((m + 1 : Nat) : Int) = (m : Int) + 1 from by omega] at h
              exact h
            clear HM
            have hD3 := HD2.out
            rw [Nat.sub_self] at hD3
            clear HD2
            have HD2 := Lib.hid hD3
            clear hD3
            have hm4 : (m : Int) ≤ (m : Int) + 1 := by omega
            go_wp2_with fail
            go_region_law (first
              | (refine step_app _ rfl (.tmp 115) (.tmp 118) rfl w.heap.size Try.underlying37 hi hz0 hz1 hz2 rfl (zs := []) (nz := 0) (k := .i64) rfl rfl HO.out rfl ((HT.out.alloc _).drew) (by simp only [maxLen]; omega) (by omega) (by simp) ?_; intro A1 c1 w1 hown1 hb1; rw [Nat.zero_add, List.nil_append] at hown1)
              | (refine step_app _ rfl (.tmp 119) (.tmp 123) rfl w.heap.size Try.underlying37 hi hz0 hz1 hz2 rfl (zs := zs.take m) (nz := m) (k := .i64) HT.out.len rfl hown1 rfl (HD2.out.below ((((Below.refl _ _).alloc (Nat.le_refl _) _).drew).trans hb1)) (by simp only [maxLen]; omega) (by omega) (by have := hb1.size; simp at this; omega) ?_; intro A2 c2 w2 hown2 hb2)
              | (go_simp; go_at_call 24; refine (qFits_any _ _ _ _ (zs.take m ++ zs.drop (m + 1)) _ ?_).mono ?_; exact isRow_own (by simpa using hown2) HW.out; rintro e w' ⟨he, rfl⟩; have he' := HF.out _ _ (by omega) he; subst he'; clear he))
            go_wp2_with (go_at_call 11; refine (known_any _).mono ?_; rintro e w' ⟨rfl, hb⟩)
            go_ret
            have hB0 : Below w.heap.size w (w.alloc (.cells #[] 3)).drew := ((Below.refl _ _).alloc (Nat.le_refl _) _).drew
            have hB2 := (hB0.trans hb1).trans hb2
            exact ⟨rfl, hB2.trans (hb.mono hB2.size)⟩
          · have hD2 := HD.out
            rw [if_neg hc1] at hD2
            have HD2 := Lib.hid hD2
            clear hD2
            go_wp2_with fail
            go_region_law (first
              | (refine step_app _ rfl (.tmp 115) (.tmp 118) rfl w.heap.size Try.underlying37 hi hz0 hz1 hz2 rfl (zs := []) (nz := 0) (k := .i64) rfl rfl HO.out rfl ((HT.out.alloc _).drew) (by simp only [maxLen]; omega) (by omega) (by simp) ?_; intro A1 c1 w1 hown1 hb1; rw [Nat.zero_add, List.nil_append] at hown1)
              | (refine step_app _ rfl (.tmp 119) (.tmp 123) rfl w.heap.size Try.underlying37 hi hz0 hz1 hz2 rfl (zs := zs.take m) (nz := m) (k := .i64) HT.out.len rfl hown1 rfl (HD2.out.below ((((Below.refl _ _).alloc (Nat.le_refl _) _).drew).trans hb1)) (by simp only [maxLen]; omega) (by omega) (by have := hb1.size; simp at this; omega) ?_; intro A2 c2 w2 hown2 hb2)
              | (go_simp; go_at_call 24; refine (qFits_any _ _ _ _ (zs.take m ++ zs.drop (m + 1)) _ ?_).mono ?_; exact isRow_own (by simpa using hown2) HW.out; rintro e w' ⟨he, rfl⟩; have he' := HF.out _ _ (by omega) he; subst he'; clear he))
            go_wp2_with (go_at_call 11; refine (known_any _).mono ?_; rintro e w' ⟨rfl, hb⟩)
            go_ret
            have hB0 : Below w.heap.size w (w.alloc (.cells #[] 3)).drew := ((Below.refl _ _).alloc (Nat.le_refl _) _).drew
            have hB2 := (hB0.trans hb1).trans hb2
            exact ⟨rfl, hB2.trans (hb.mono hB2.size)⟩
  · go_enter Try.func8, Try.ntmps8
    go_wp2_with first | (go_at_call 14; refine (qD_bad _ _ (by omega)).mono ?_; rintro e w' ⟨rfl, rfl⟩) | (go_at_call 11; refine (known_any _).mono ?_; rintro e w' ⟨rfl, hb⟩)
    go_ret
    exact ⟨rfl, hb⟩

theorem less_walk (A : Option Addr) (n c : Nat) (zs : List Int) (at0 : Int) (w : World) (h : IsRow .i64 w A n c zs) (_ : c * 8 ≤ 140737488351232) (_ : (Lit.int .i64 at0).wf = true) :
    Calls Try.prog 8 #[.slice A n c, .int .i64 at0] w fun e w' => e = .returned (.bool true) ∧ Below w.heap.size w w' :=
  less_any at0 A n c zs w h

end Go.Proofs.Ytlbpddkhfoddkaa
