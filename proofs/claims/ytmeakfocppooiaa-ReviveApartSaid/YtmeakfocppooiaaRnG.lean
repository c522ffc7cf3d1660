/-
  ReviveApart: the walk.
-/
import Derived.Test.YtmeakfocppooiaaRnF
namespace Go.Proofs.Ytmeakfocppooiaa
open Go.RowKit Go.ChangeShapes Go.WideShapes
set_option linter.unusedVariables false

theorem left_pages {b : Nat} {ps : List Nat} (hb : 2 ≤ b) (hn : ps.Nodup) (hm : ∀ p ∈ ps, 2 ≤ p ∧ p < b) : Rgt (leftO b ps) ∧ pagesR (leftO b ps) = (List.range' 2 (b - 2)).filter (fun q => decide (q ∉ ps)) := by
  have h := foldD_law ps (mkR 2 b) (Rgt.mk _ _) hn fun p hp => by
    rw [pagesR_mk, List.mem_range'_1]
    have := hm p hp
    omega
  rw [pagesR_mk, free_law hb hn hm] at h
  exact h
theorem left_count {b : Nat} {ps : List Nat} (hb : 2 ≤ b) (hn : ps.Nodup) (hm : ∀ p ∈ ps, 2 ≤ p ∧ p < b) : (pagesR (leftO b ps)).length + ps.length = b - 2 := by
  rw [(left_pages hb hn hm).2]
  have h1 : ((List.range' 2 (b - 2)).filter (fun q => decide (q ∈ ps))).length = ps.length := by
    refine List.Perm.length_eq ((List.perm_ext_iff_of_nodup (List.Pairwise.filter _ List.nodup_range') hn).2 fun q => ?_)
    rw [List.mem_filter, List.mem_range'_1, decide_eq_true_eq]
    exact ⟨fun h => h.2, fun h => ⟨by have := hm q h; omega, h⟩⟩
  have h2 : ∀ l : List Nat, (l.filter (fun q => decide (q ∉ ps))).length + (l.filter (fun q => decide (q ∈ ps))).length = l.length := by
    intro l
    induction l with
    | nil => rfl
    | cons q l ih =>
      by_cases h : q ∈ ps
      · rw [List.filter_cons_of_neg (by simpa using h), List.filter_cons_of_pos (by simpa using h), List.length_cons, List.length_cons]; omega
      · rw [List.filter_cons_of_pos (by simpa using h), List.filter_cons_of_neg (by simpa using h), List.length_cons, List.length_cons]; omega
  have h3 := h2 (List.range' 2 (b - 2))
  rw [h1, List.length_range'] at h3
  exact h3
theorem left_mem {b : Nat} {ps : List Nat} (hb : 2 ≤ b) (hn : ps.Nodup) (hm : ∀ p ∈ ps, 2 ≤ p ∧ p < b) (p : Nat) : ((decide (p ∈ pagesR (leftO b ps)) || decide (p ∈ ps)) = (decide (1 < p) && decide (p < b))) ∧ (decide (p ∈ pagesR (leftO b ps)) && decide (p ∈ ps)) = false := by
  rw [(left_pages hb hn hm).2]
  constructor
  · rw [← Bool.decide_or, ← Bool.decide_and, decide_eq_decide, List.mem_filter, List.mem_range'_1, decide_eq_true_eq]
    by_cases h : p ∈ ps
    · have := hm p h
      simp [h]; omega
    · simp [h]; omega
  · rw [← Bool.decide_and, decide_eq_false_iff_not, List.mem_filter, decide_eq_true_eq]
    exact fun h => h.1.2 h.2
theorem left_bounds {b : Nat} {ps : List Nat} (hb : 2 ≤ b) (hn : ps.Nodup) (hm : ∀ p ∈ ps, 2 ≤ p ∧ p < b) : ∀ r ∈ leftO b ps, r.1 < r.2 ∧ r.2 ≤ b := fun r hr => by
  obtain ⟨h1, h2⟩ := left_pages hb hn hm
  have h3 := h1.2 r hr
  have h4 : r.2 - 1 ∈ pagesR (leftO b ps) := mem_pagesR.2 ⟨r, hr, by omega, by omega⟩
  rw [h2, List.mem_filter, List.mem_range'_1] at h4
  omega
theorem pagesR_take (l : RnL) (i : Nat) (r : Nat × Nat) (h : l[i]? = some r) : pagesR (l.take (i + 1)) = pagesR (l.take i) ++ List.range' r.1 (r.2 - r.1) := by
  rw [List.take_add_one, h, Option.toList_some, pagesR_app]
  simp [pagesR]
theorem pages_le {b : Nat} {ps : List Nat} (hb : 2 ≤ b) (hn : ps.Nodup) (hm : ∀ p ∈ ps, 2 ≤ p ∧ p < b) (i : Nat) : (pagesR ((leftO b ps).take i)).length ≤ b := by
  have h1 : (pagesR (leftO b ps)) = pagesR ((leftO b ps).take i) ++ pagesR ((leftO b ps).drop i) := by rw [← pagesR_app, List.take_append_drop]
  have h2 := left_count hb hn hm
  rw [h1, List.length_append] at h2
  omega
/-- what freeP can be -/
theorem freeP_cases (z : Int) (ps : List Nat) : (freeP z ps = ([], 2)) ∨ (freeP z ps = ([], 8)) ∨ ∃ b : Nat, z = (b : Int) ∧ 8 ≤ b ∧ b ≤ 4096 ∧ ps.Nodup ∧ (∀ p ∈ ps, 2 ≤ p ∧ p < b) ∧ freeP z ps = (leftO b ps, 0) := by
  unfold freeP
  by_cases h1 : z < 8 ∨ 4096 < z
  · rw [if_pos h1]; exact .inl rfl
  · rw [if_neg h1]
    by_cases h2 : ps.any (fun p => decide (p < 2) || decide (z.toNat ≤ p)) = true
    · rw [if_pos h2]; exact .inl rfl
    · rw [if_neg h2]
      by_cases h3 : ps.Nodup
      · rw [if_pos h3]
        refine .inr (.inr ⟨z.toNat, by omega, by omega, by omega, h3, fun p hp => ?_, rfl⟩)
        rw [Bool.not_eq_true, List.any_eq_false] at h2
        have := h2 p hp
        simp at this
        omega
      · rw [if_neg h3]; exact .inr (.inl rfl)
set_option maxRecDepth 100000 in
set_option maxHeartbeats 8000000 in
theorem rapart_any (z : Int) (A : Option Addr) (n c p : Nat) (l : List Rf) (w : World) (hp32 : p < 4294967296) (h : RfB w A n c l) :
    Calls Try.prog 10 #[.int .i64 z, .slice A n c, .int .u32 (p : Int)] w fun e w' => e = .returned (.bool true) ∧ Below w.heap.size w w' := by
  have hn : (n : Int) ≤ 9223372036854775807 := by have := h.cap; have := h.max; unfold maxLen at this; omega
  have HR := Lib.hid h
  by_cases hz : 64 < z
  · have d1 : decide (64 < z) = true := decide_eq_true hz
    clear h hp32
    go_enter Try.func10, Try.ntmps10
    go_wp2_with fail
    refine (known21_any _).mono ?_
    rintro e w6 ⟨rfl, hb⟩
    have B6 := Lib.hid (hb)
    clear hb
    go_wp2_with fail
    go_ret
    exact ⟨rfl, B6.out⟩
  have d1 : ¬ 64 < z := hz
  by_cases h6 : 60 < n
  · have h6' : (60 : Int) < (n : Int) := by omega
    clear h h6 hp32
    go_enter Try.func10, Try.ntmps10
    go_wp2_with fail
    refine (known21_any _).mono ?_
    rintro e w6 ⟨rfl, hb⟩
    have B6 := Lib.hid (hb)
    clear hb
    go_wp2_with fail
    go_ret
    exact ⟨rfl, B6.out⟩
  have h6' : ¬ (60 : Int) < (n : Int) := by omega
  have hnb : (n : Int) ≤ 60 := by omega
  have H6 : Hid (n ≤ 60) := Lib.hid (by omega)
  have HF := Lib.hid (rvFree_any z A n c l w h (by omega))
  have HC := Lib.hid (freeP_cases z (l.map (·.pg)))
  have HLP : Hid ((l.map (·.pg)).length = n) := Lib.hid (by rw [List.length_map, h.len])
  unfold FreeR at HF
  clear h h6
  go_enter Try.func10, Try.ntmps10
  go_wp2_with fail
  refine HF.out.mono ?_
  rintro e w1 ⟨v1, rfl, hv1, hb1⟩
  have B1 := Lib.hid hb1
  clear hb1 HF
  rcases HC.out with hc | hc | ⟨b, rfl, hb8, hb4, hnd, hmm, hc⟩
  · rw [hc] at hv1 ⊢
    obtain ⟨A1, c1, rfl, _, _⟩ := hv1.rn
    simp only [List.length_nil]
    clear hv1 hc HC
    go_wp2_with fail
    refine (known21_any _).mono ?_
    rintro e w6 ⟨rfl, hb⟩
    have B6 := Lib.hid (below_tr B1.out hb B1.out.size)
    clear hb
    go_wp2_with fail
    go_ret
    exact ⟨rfl, B6.out⟩
  · rw [hc] at hv1 ⊢
    obtain ⟨A1, c1, rfl, _, _⟩ := hv1.rn
    simp only [List.length_nil]
    clear hv1 hc HC
    go_wp2_with fail
    refine (known21_any _).mono ?_
    rintro e w6 ⟨rfl, hb⟩
    have B6 := Lib.hid (below_tr B1.out hb B1.out.size)
    clear hb
    go_wp2_with fail
    go_ret
    exact ⟨rfl, B6.out⟩
  · rw [hc] at hv1 ⊢
    have hb2 : 2 ≤ b := by omega
    have CNT := Lib.hid (left_count hb2 hnd hmm)
    have MEM := Lib.hid (left_mem hb2 hnd hmm p)
    have BND := Lib.hid (left_bounds hb2 hnd hmm)
    have PLE := Lib.hid (pages_le hb2 hnd hmm)
    have HBB : Hid (8 ≤ b ∧ b ≤ 4096) := Lib.hid ⟨hb8, hb4⟩
    have HP := Lib.hid hp32
    simp only at hv1 ⊢
    generalize leftO b (l.map (·.pg)) = L at *
    obtain ⟨A1, c1, rfl, hr1, _⟩ := hv1.rn
    have N1 := Lib.hid hr1
    have hbb : (b : Int) ≤ 4096 := by omega
    have hb8' : (8 : Int) ≤ (b : Int) := by omega
    obtain ⟨m, hm⟩ : ∃ m, L.length = m := ⟨_, rfl⟩
    have HM := Lib.hid hm
    have hmb : (m : Int) ≤ 9223372036854775807 := by have := hr1.cap; have := hr1.max; unfold maxLen at this; omega
    rw [hm] at N1 ⊢
    clear hv1 hr1 hc hnd hmm hb2 hm hb8 hb4 hp32 HC
    generalize w1 = wo at *
    go_wp2_with fail
    go_loopw [49, 9, 11] (fun z f q wx => ∃ i : Nat, i ≤ m ∧ z = .int .i64 (i : Int) ∧ f = .bool (decide (p ∈ pagesR (L.take i))) ∧ q = .int .i64 (((pagesR (L.take i)).length : Nat) : Int) ∧ Below wo.heap.size wo wx) (fun z _ _ _ => m - (intOf z).toNat)
    case atStart => exact ⟨0, Nat.zero_le _, rfl, by simp [pagesR], by simp [pagesR], Below.refl _ _⟩
    case round =>
      obtain ⟨i, hi, rfl, rfl, rfl, hbx⟩ := hrel
      by_cases hlt : i < m
      · obtain ⟨r, hr⟩ : ∃ r, L[i]? = some r := ⟨_, List.getElem?_eq_getElem (by rw [HM.out]; exact hlt)⟩
        obtain ⟨x, rfl, _, hcel⟩ := N1.out.at hr
        obtain ⟨r0, r1⟩ := hcel _ hbx
        have hlti : (i : Int) < (m : Int) := by omega
        have HLT := Lib.hid hlt
        have HX : Hid (Below wo.heap.size wo (wr.alloc (.cells #[.int .u32 (r.1 : Int), .int .u32 (r.2 : Int)] 105))) := Lib.hid (hbx.alloc hbx.size _)
        have HT := pagesR_take L i r hr
        obtain ⟨hr12, hr2b⟩ := BND.out r (List.mem_of_getElem? hr)
        have LN : Hid ((pagesR (L.take (i + 1))).length = (pagesR (L.take i)).length + (r.2 - r.1)) := Lib.hid (by rw [HT, List.length_append, List.length_range'])
        have hle := PLE.out (i + 1)
        rw [LN.out] at hle
        have FN : Hid (decide (p ∈ pagesR (L.take (i + 1))) = (decide (p ∈ pagesR (L.take i)) || (decide (r.1 ≤ p) && decide (p < r.2)))) := Lib.hid (by
          rw [HT, ← Bool.decide_and, ← Bool.decide_or, decide_eq_decide, List.mem_append, List.mem_range'_1]
          constructor
          · rintro (h | h)
            · exact .inl h
            · exact .inr (by omega)
          · rintro (h | h)
            · exact .inl h
            · exact .inr (by omega))
        obtain ⟨d, hd⟩ : ∃ d, r.2 - r.1 = d := ⟨_, rfl⟩
        rw [hd] at LN hle
        generalize (pagesR (L.take i)).length = q at *
        generalize decide (p ∈ pagesR (L.take i)) = fb at *
        have hsub : IntKind.u32.wrap ((r.2 : Int) - (r.1 : Int)) = (d : Int) := by
          rw [show (r.2 : Int) - (r.1 : Int) = ((d : Nat) : Int) by omega]
          exact wrap_u32 _ (by omega) (by omega)
        have hdw : IntKind.i64.wrap (d : Int) = (d : Int) := by rw [IntWalk.i64_in _ (by omega)]
        have hqd : (q : Int) + (d : Int) ≤ 4096 := by omega
        have hqw : IntKind.i64.wrap ((q : Int) + (d : Int)) = (q : Int) + (d : Int) := by rw [IntWalk.i64_in _ (by omega)]
        clear hi hlt hbx hr hcel HT hr12 hr2b hle hd
        cases fb
        · by_cases h1 : r.1 ≤ p
          · have e1 : decide (r.1 ≤ p) = true := decide_eq_true h1
            have e1' : (r.1 : Int) ≤ (p : Int) := by omega
            by_cases h2 : p < r.2
            · have e2 : decide (p < r.2) = true := decide_eq_true h2
              have e2' : (p : Int) < (r.2 : Int) := by omega
              rw [e1, e2] at FN
              clear h1 h2
              go_wp2_with fail
              go_roundw
              case rel => exact ⟨i + 1, HLT.out, by go_num, by rw [FN.out]; rfl, by rw [LN.out]; first | rfl | (congr 1; omega), HX.out⟩
              case measure => simp [intOf]; have := HLT.out; omega
            · have e2 : decide (p < r.2) = false := decide_eq_false h2
              have e2' : ¬ (p : Int) < (r.2 : Int) := by omega
              rw [e1, e2] at FN
              clear h1 h2
              go_wp2_with fail
              go_roundw
              case rel => exact ⟨i + 1, HLT.out, by go_num, by rw [FN.out]; rfl, by rw [LN.out]; first | rfl | (congr 1; omega), HX.out⟩
              case measure => simp [intOf]; have := HLT.out; omega
          · have e1 : decide (r.1 ≤ p) = false := decide_eq_false h1
            have e1' : ¬ (r.1 : Int) ≤ (p : Int) := by omega
            rw [e1] at FN
            clear h1
            go_wp2_with fail
            go_roundw
            case rel => exact ⟨i + 1, HLT.out, by go_num, by rw [FN.out]; simp, by rw [LN.out]; first | rfl | (congr 1; omega), HX.out⟩
            case measure => simp [intOf]; have := HLT.out; omega
        · rw [Bool.true_or] at FN
          go_wp2_with fail
          go_roundw
          case rel => exact ⟨i + 1, HLT.out, by go_num, by rw [FN.out], by rw [LN.out]; first | rfl | (congr 1; omega), HX.out⟩
          case measure => simp [intOf]; have := HLT.out; omega
      · obtain rfl : i = m := by omega
        have htk : L.take i = L := List.take_of_length_le (by rw [HM.out]; exact Nat.le_refl _)
        rw [htk] at *
        have HX := Lib.hid (below_tr B1.out hbx B1.out.size)
        have hcnt := CNT.out
        rw [HLP.out] at hcnt
        obtain ⟨m1, m2⟩ := MEM.out
        generalize (pagesR L).length = q at *
        generalize decide (p ∈ pagesR L) = f1 at *
        have OB := Lib.hid (HR.out.ab HX.out)
        clear hi hlt hbx htk N1 B1 BND PLE CNT MEM HM
        generalize wr = wo2 at *
        go_wp2_with fail
        go_loopw [77, 10] (fun z f wx => ∃ j : Nat, j ≤ n ∧ z = .int .i64 (j : Int) ∧ f = .bool (decide (p ∈ (l.map (·.pg)).take j)) ∧ Below wo2.heap.size wo2 wx) (fun z _ _ => n - (intOf z).toNat)
        case atStart => exact ⟨0, Nat.zero_le _, rfl, by simp, Below.refl _ _⟩
        case round =>
          obtain ⟨j, hj, rfl, rfl, hbx⟩ := hrel
          by_cases hlt : j < n
          · obtain ⟨r, hr⟩ : ∃ r, l[j]? = some r := ⟨_, List.getElem?_eq_getElem (by rw [HR.out.len]; exact hlt)⟩
            obtain ⟨x, rfl, _, hcel⟩ := OB.out.at hr
            obtain ⟨r0, r1, r2⟩ := hcel _ hbx
            have hlti : (j : Int) < (n : Int) := by omega
            have HLT := Lib.hid hlt
            have HX2 : Hid (Below wo2.heap.size wo2 (wr.alloc (.cells #[.int .u32 (r.pg : Int), .int .u64 (r.cm : Int), .int .u16 (r.gn : Int)] 33))) := Lib.hid (hbx.alloc hbx.size _)
            have FN : Hid (decide (p ∈ (l.map (·.pg)).take (j + 1)) = (decide (p ∈ (l.map (·.pg)).take j) || decide (r.pg = p))) := Lib.hid (by
              rw [List.take_add_one, List.getElem?_map, hr, ← Bool.decide_or, decide_eq_decide]
              simp [eq_comm])
            generalize decide (p ∈ (l.map (·.pg)).take j) = fb at *
            clear hj hlt hbx hr hcel
            cases fb
            · by_cases h1 : r.pg = p
              · have e1 : ((r.pg : Int) == (p : Int)) = true := by rw [h1]; simp
                rw [decide_eq_true h1] at FN
                clear h1
                go_wp2_with fail
                go_roundw
                case rel => exact ⟨j + 1, HLT.out, by go_num, by rw [FN.out]; rfl, HX2.out⟩
                case measure => simp [intOf]; have := HLT.out; omega
              · have e1 : ((r.pg : Int) == (p : Int)) = false := by rw [beq_eq_false_iff_ne]; omega
                rw [decide_eq_false h1] at FN
                clear h1
                go_wp2_with fail
                go_roundw
                case rel => exact ⟨j + 1, HLT.out, by go_num, by rw [FN.out]; rfl, HX2.out⟩
                case measure => simp [intOf]; have := HLT.out; omega
            · rw [Bool.true_or] at FN
              go_wp2_with fail
              go_roundw
              case rel => exact ⟨j + 1, HLT.out, by go_num, by rw [FN.out], HX2.out⟩
              case measure => simp [intOf]; have := HLT.out; omega
          · obtain rfl : j = n := by omega
            have htk : (l.map (·.pg)).take j = l.map (·.pg) := List.take_of_length_le (by rw [HLP.out]; exact Nat.le_refl _)
            rw [htk]
            have HX2 := Lib.hid (below_tr HX.out hbx HX.out.size)
            generalize decide (p ∈ l.map (·.pg)) = f2 at *
            have hsum : ((q : Int) + (j : Int) == (b : Int) - 2) = true := by
              rw [show (q : Int) + (j : Int) = (b : Int) - 2 by omega]; simp
            have hsw : IntKind.i64.wrap ((q : Int) + (j : Int)) = (q : Int) + (j : Int) := by rw [IntWalk.i64_in _ (by omega)]
            have hqb : (q : Int) + (j : Int) ≤ 5000 := by omega
            have hpw : IntKind.i64.wrap (p : Int) = (p : Int) := by rw [IntWalk.i64_in _ (by have := HP.out; omega)]
            by_cases g1 : 1 < p
            · have e1 : decide (1 < p) = true := decide_eq_true g1
              have e1' : (1 : Int) < (p : Int) := by omega
              by_cases g2 : p < b
              · have e2 : decide (p < b) = true := decide_eq_true g2
                have e2' : (p : Int) < (b : Int) := by omega
                rw [e1, e2] at m1
                clear hj hlt hbx htk g1 g2
                cases f1 <;> cases f2 <;> first | (exact absurd m1 (by decide)) | (exact absurd m2 (by decide)) | skip
                all_goals
                  go_wp2_with fail
                  refine (known21_any _).mono ?_
                  rintro e w6 ⟨rfl, hb⟩
                  have B6 := Lib.hid (below_tr HX2.out hb HX2.out.size)
                  clear hb
                  go_wp2_with fail
                  go_ret
                  exact ⟨rfl, B6.out⟩
              · have e2 : decide (p < b) = false := decide_eq_false g2
                have e2' : ¬ (p : Int) < (b : Int) := by omega
                rw [e1, e2] at m1
                clear hj hlt hbx htk g1 g2
                cases f1 <;> cases f2 <;> first | (exact absurd m1 (by decide)) | (exact absurd m2 (by decide)) | skip
                all_goals
                  go_wp2_with fail
                  refine (known21_any _).mono ?_
                  rintro e w6 ⟨rfl, hb⟩
                  have B6 := Lib.hid (below_tr HX2.out hb HX2.out.size)
                  clear hb
                  go_wp2_with fail
                  go_ret
                  exact ⟨rfl, B6.out⟩
            · have e1 : decide (1 < p) = false := decide_eq_false g1
              have e1' : ¬ (1 : Int) < (p : Int) := by omega
              rw [e1, Bool.false_and] at m1
              clear hj hlt hbx htk g1
              cases f1 <;> cases f2 <;> first | (exact absurd m1 (by decide)) | (exact absurd m2 (by decide)) | skip
              all_goals
                go_wp2_with fail
                refine (known21_any _).mono ?_
                rintro e w6 ⟨rfl, hb⟩
                have B6 := Lib.hid (below_tr HX2.out hb HX2.out.size)
                clear hb
                go_wp2_with fail
                go_ret
                exact ⟨rfl, B6.out⟩
set_option maxRecDepth 100000 in
theorem rapart_walk (z : Int) (v : Value) (p : Int) (w : World) (hz : (Lit.int .i64 z).wf = true) (hk : ∃ base, Value.okWide Try.prog w .any base 83 v) {H : Type} {enc : TypeId × Value → H} {d : DataW H} {q : List MemPlace} (hd : DataW.Trod enc Try.prog w 0 (fun _ => true) true 83 v d q) (hq : ∀ x ∈ q, x.block < w.heap.size) (hp : (Lit.int .u32 p).wf = true) :
    Calls Try.prog 10 #[.int .i64 z, v, .int .u32 p] w fun e w' => e = .returned (.bool true) ∧ Below w.heap.size w w' := by
  obtain ⟨base, hk⟩ := hk
  obtain ⟨A, n, c, l, rfl, hl, _⟩ := open_refs hk hd hq
  obtain ⟨p', rfl, hp'⟩ := nat_int (m := 4294967296) hp rfl (by decide)
  exact rapart_any z A n c p' l w hp' hl
end Go.Proofs.Ytmeakfocppooiaa
