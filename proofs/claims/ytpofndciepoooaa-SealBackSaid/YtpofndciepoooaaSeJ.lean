/-
  SealBack: the walk.
-/
import Derived.Test.YtpofndciepoooaaSeG
namespace Go.Proofs.Ytpofndciepoooaa
open Go.RowKit
set_option linter.unusedVariables false

set_option maxRecDepth 100000 in
set_option maxHeartbeats 4000000 in
theorem eq_lab (a b : Lb) (W : World) : (Op.equalIn 10000 54 (.agg #[.int .u32 (a.ten : Int), .int .u8 (a.k : Int), .int .u8 (a.lv : Int), .int .u32 (a.pg : Int), .int .u64 (a.cm : Int), .int .u16 (a.gn : Int)]) (.agg #[.int .u32 (b.ten : Int), .int .u8 (b.k : Int), .int .u8 (b.lv : Int), .int .u32 (b.pg : Int), .int .u64 (b.cm : Int), .int .u16 (b.gn : Int)])).run Try.prog W = .ok (decide (a = b)) W := by
  obtain ⟨a1, a2, a3, a4, a5, a6⟩ := a
  obtain ⟨b1, b2, b3, b4, b5, b6⟩ := b
  have hd : decide ((⟨a1, a2, a3, a4, a5, a6⟩ : Lb) = ⟨b1, b2, b3, b4, b5, b6⟩) = (decide (a1 = b1) && decide (a2 = b2) && decide (a3 = b3) && decide (a4 = b4) && decide (a5 = b5) && decide (a6 = b6)) := by
    rw [← Bool.decide_and, ← Bool.decide_and, ← Bool.decide_and, ← Bool.decide_and, ← Bool.decide_and, decide_eq_decide]
    simp [and_assoc]
  rw [hd]
  go_simp
  by_cases h1 : a1 = b1
  · by_cases h2 : a2 = b2
    · by_cases h3 : a3 = b3
      · by_cases h4 : a4 = b4
        · by_cases h5 : a5 = b5
          · by_cases h6 : a6 = b6
            · simp [h1, h2, h3, h4, h5, h6]
            · simp [h1, h2, h3, h4, h5, h6]
              omega
          · simp [h1, h2, h3, h4, h5]
            omega
        · simp [h1, h2, h3, h4]
          omega
      · simp [h1, h2, h3]
        omega
    · simp [h1, h2]
      omega
  · simp [h1]
    omega
theorem digB_inj {a b n : Nat} (ha : a < 256 ^ n) (hb : b < 256 ^ n) (h : digB a n = digB b n) : a = b := by
  have := congrArg numB h
  rwa [numB_digB a n ha, numB_digB b n hb] at this
theorem headL_inj {a b : Lb} (ha : a.Ok) (hb : b.Ok) (h : headL a = headL b) : a.k = b.k ∧ a.lv = b.lv ∧ a.gn = b.gn ∧ a.cm = b.cm := by
  unfold headL headN at h
  simp only [flatN, List.append_nil] at h
  have h1 := List.append_cancel_left h
  obtain ⟨e1, h2⟩ := List.append_inj h1 (by rw [digB_len, digB_len])
  obtain ⟨e2, h3⟩ := List.append_inj h2 (by rw [digB_len, digB_len])
  obtain ⟨e3, e4⟩ := List.append_inj h3 (by rw [digB_len, digB_len])
  have a1 := ha.k; have a2 := ha.lv; have a3 := ha.gn; have a4 := ha.cm
  have b1 := hb.k; have b2 := hb.lv; have b3 := hb.gn; have b4 := hb.cm
  exact ⟨digB_inj a1 b1 e1, digB_inj a2 b2 e2, digB_inj a3 b3 e3, digB_inj a4 b4 e4⟩
theorem headL_same {a b : Lb} (h1 : a.k = b.k) (h2 : a.lv = b.lv) (h3 : a.gn = b.gn) (h4 : a.cm = b.cm) : headL a = headL b := by
  unfold headL headN
  rw [h1, h2, h3, h4]
theorem openS_err {key nonce aad s : List Nat} (hG : GOk key nonce) (ha : aad.length ≤ 65536) (hs : 16 ≤ s.length) (hs2 : s.length ≤ 65552) : (openS key nonce aad s).2 = 60 ∨ (openS key nonce aad s).2 = 0 := by
  unfold openS
  rw [if_pos hG, if_neg (by omega), if_neg (by omega)]
  split
  · exact .inr rfl
  · exact .inl rfl
theorem told_seal {l : Lb} (hl : l.Ok) (h1 : 1 ≤ l.k) (h4 : l.k ≤ 4) {X : List Nat} (hX : X.length = 240) : toldP (headL l ++ X) = ⟨l.k, l.lv, l.gn, l.cm, 0⟩ := by
  have a1 := hl.k; have a2 := hl.lv; have a3 := hl.gn; have a4 := hl.cm
  have e : headL l ++ X = magL ++ ([l.k] ++ ([l.lv] ++ (digB l.gn 2 ++ (digB l.cm 8 ++ X)))) := by
    unfold headL headN
    simp only [flatN, digB_one a1, digB_one a2, List.append_nil, List.append_assoc]
    rfl
  have hlen : (headL l ++ X).length = 256 := by rw [List.length_append, headL_len, hX]
  have k4 : at' (headL l ++ X) 4 = l.k := by rw [e]; rfl
  have k5 : at' (headL l ++ X) 5 = l.lv := by rw [e]; rfl
  have t4 : (headL l ++ X).take 4 = magL := by rw [e]; rfl
  have d6 : (headL l ++ X).drop 6 = digB l.gn 2 ++ (digB l.cm 8 ++ X) := by rw [e]; rfl
  have d8 : (headL l ++ X).drop 8 = digB l.cm 8 ++ X := by
    rw [show (8 : Nat) = 6 + 2 from rfl, ← List.drop_drop, d6, List.drop_append_of_le_length (by rw [digB_len]; decide), List.drop_of_length_le (by rw [digB_len]; decide), List.nil_append]
  unfold toldP
  rw [if_pos hlen, if_pos ⟨t4, by rw [k4]; exact ⟨h1, h4⟩⟩, k4, k5, d6, d8, List.take_append_of_le_length (by rw [digB_len]; decide), List.take_of_length_le (by rw [digB_len]; decide), List.take_append_of_le_length (by rw [digB_len]; decide), List.take_of_length_le (by rw [digB_len]; decide), numB_digB _ 2 a3, numB_digB _ 8 a4]
/-- what comes of the other label -/
theorem other_cases {key text : List Nat} {l m : Lb} (hl : l.Ok) (hm : m.Ok) (hS : SOk key l) (ht : text.length = 224) :
    (m = l ∧ (openP key m (headL l ++ sealA key (nonceL l) (aadL l) text)).2 = 0) ∨
    (m ≠ l ∧ ¬ (1 ≤ m.k ∧ m.k ≤ 4) ∧ openP key m (headL l ++ sealA key (nonceL l) (aadL l) text) = ([], 2)) ∨
    (m ≠ l ∧ (1 ≤ m.k ∧ m.k ≤ 4) ∧ ¬ (m.k = l.k ∧ m.lv = l.lv ∧ m.gn = l.gn ∧ m.cm = l.cm) ∧ openP key m (headL l ++ sealA key (nonceL l) (aadL l) text) = ([], 100)) ∨
    (m ≠ l ∧ (1 ≤ m.k ∧ m.k ≤ 4) ∧ (m.k = l.k ∧ m.lv = l.lv ∧ m.gn = l.gn ∧ m.cm = l.cm) ∧ ((openP key m (headL l ++ sealA key (nonceL l) (aadL l) text)).2 = 60 ∨ (openP key m (headL l ++ sealA key (nonceL l) (aadL l) text)).2 = 0)) := by
  by_cases hml : m = l
  · left
    subst hml
    exact ⟨rfl, by rw [openP_seal hS ht]⟩
  · right
    by_cases hk : 1 ≤ m.k ∧ m.k ≤ 4
    · right
      by_cases hh : m.k = l.k ∧ m.lv = l.lv ∧ m.gn = l.gn ∧ m.cm = l.cm
      · right
        refine ⟨hml, hk, hh, ?_⟩
        have he : headL l = headL m := headL_same hh.1.symm hh.2.1.symm hh.2.2.1.symm hh.2.2.2.symm
        unfold openP
        rw [if_pos ⟨⟨hS.1, hk⟩, lsealA_len key l ht⟩, lseal_take, if_pos he, lseal_drop]
        exact openS_err ⟨hS.1, nonceL_len m⟩ (by rw [aadL_len]; decide) (by rw [sealA_len]; omega) (by rw [sealA_len]; omega)
      · left
        exact ⟨hml, hk, hh, openP_other ⟨hS.1, hk⟩ ht (fun e => hh (by obtain ⟨a, b, c, d⟩ := headL_inj hl hm e; exact ⟨a.symm, b.symm, c.symm, d.symm⟩))⟩
    · left
      refine ⟨hml, hk, ?_⟩
      unfold openP
      rw [if_neg (fun h => hk h.1.2)]
-- WALK
set_option maxRecDepth 100000 in
set_option maxHeartbeats 8000000 in
theorem lback_any (kA tA : Option Addr) (kn kc tn tc : Nat) (l m : Lb) (key text : List Nat) (w : World) (hl : l.Ok) (hm : m.Ok) (ik : IsB w kA kn kc key) (it : IsB w tA tn tc text) :
    Calls Try.prog 16 #[.slice kA kn kc, .agg (lab l), .agg (lab m), .slice tA tn tc] w fun e w' => e = .returned (.bool true) ∧ Below w.heap.size w w' := by
  have lt := it.len
  have XL : Hid (LbB ((w.alloc (.cells (lab l) 54)).alloc (.cells (lab m) 54)) w.heap.size l) := Lib.hid ((show LbB (w.alloc (.cells (lab l) 54)) w.heap.size l from heap_alloc_new w _).alloc _)
  have XM : Hid (LbB ((w.alloc (.cells (lab l) 54)).alloc (.cells (lab m) 54)) (w.heap.size + 1) m) := Lib.hid (by
    have := heap_alloc_new (w.alloc (.cells (lab l) 54)) (.cells (lab m) 54)
    rw [show (w.alloc (.cells (lab l) 54)).heap.size = w.heap.size + 1 by simp] at this
    exact this)
  have IK : Hid (IsB ((w.alloc (.cells (lab l) 54)).alloc (.cells (lab m) 54)) kA kn kc key) := Lib.hid ((ik.alloc _).alloc _)
  have IT : Hid (IsB ((w.alloc (.cells (lab l) 54)).alloc (.cells (lab m) 54)) tA tn tc text) := Lib.hid ((it.alloc _).alloc _)
  have B0 : Hid (Below w.heap.size w ((w.alloc (.cells (lab l) 54)).alloc (.cells (lab m) 54))) := Lib.hid (((Below.refl _ _).alloc (Nat.le_refl _) _).alloc (Nat.le_of_lt (by simp)) _)
  have hse := fun W h1 h2 => lseal_any kA tA kn kc tn tc l key text W hl h1 h2
  by_cases hS : SOk key l ∧ text.length = 224
  · obtain ⟨hS, ht⟩ := hS
    obtain rfl : tn = 224 := by omega
    rw [sealP_ok hS ht] at hse
    have hop := fun A c W h1 h2 => lopen_any kA A kn kc 256 c l key (headL l ++ sealA key (nonceL l) (aadL l) text) W hl h1 h2
    rw [openP_seal hS ht] at hop
    have htl := fun A c W h2 => told_any A 256 c (headL l ++ sealA key (nonceL l) (aadL l) text) W h2
    rw [told_seal hl hS.2.1 hS.2.2 (by rw [sealA_len]; omega)] at htl
    have hom := fun A c W h1 h2 => lopen_any kA A kn kc 256 c m key (headL l ++ sealA key (nonceL l) (aadL l) text) W hm h1 h2
    have hcs := other_cases hl hm hS ht
    have hln := lsealA_len key l ht
    have heq := fun W => eq_lab m l W
    generalize headL l ++ sealA key (nonceL l) (aadL l) text = S at *
    generalize hou : openP key m S = R at *
    clear hou
    obtain ⟨out, err⟩ := R
    have HSE := Lib.hid hse
    have HOP := Lib.hid hop
    have HTL : Hid (∀ A c W, IsB W A 256 c S → Calls Try.prog 49 #[.slice A 256 c] W fun e w' => e = .returned (.tuple #[.int .u8 (l.k : Int), .int .u8 (l.lv : Int), .int .u16 (l.gn : Int), .int .u64 (l.cm : Int), .int .i64 0]) ∧ Below W.heap.size W w') := Lib.hid htl
    have HOM := Lib.hid hom
    have HCS := Lib.hid hcs
    have HLN := Lib.hid hln
    have HTX := Lib.hid ht
    have HEQ := Lib.hid heq
    clear hse hop htl hom hcs hln ht heq hS hl hm ik it lt
    obtain ⟨x0, x1, x2, x3, x4, x5⟩ := XL.out.cells
    go_enter Try.func16, Try.ntmps16
    go_wp2_with fail
    generalize ((w.alloc (.cells (lab l) 54)).alloc (.cells (lab m) 54)) = w0 at *
    refine (HSE.out w0 IK.out IT.out).mono ?_
    rintro e w1 ⟨v1, rfl, hv1, hb1⟩
    obtain ⟨A1, c1, rfl, -, -⟩ := hv1.shape
    rw [HLN.out] at hv1 ⊢
    have S1 := Lib.hid (hv1.isB HLN.out)
    have L1 := Lib.hid (XL.out.ab hb1)
    have M1 := Lib.hid (XM.out.ab hb1)
    have K1 := Lib.hid (IK.out.ab hb1)
    have T1 := Lib.hid (IT.out.ab hb1)
    have B1 := Lib.hid (below_tr B0.out hb1 B0.out.size)
    clear hv1 hb1 XL XM IK IT B0 HSE x0 x1 x2 x3 x4 x5
    obtain ⟨x0, x1, x2, x3, x4, x5⟩ := L1.out.cells
    go_wp2_with fail
    refine (HOP.out _ _ w1 K1.out S1.out).mono ?_
    rintro e w2 ⟨v2, rfl, hv2, hb2⟩
    obtain ⟨A2, c2, rfl, -, -⟩ := hv2.shape
    rw [HTX.out] at hv2 ⊢
    have P2 := Lib.hid (hv2.isB HTX.out)
    have S2 := Lib.hid (S1.out.ab hb2)
    have L2 := Lib.hid (L1.out.ab hb2)
    have M2 := Lib.hid (M1.out.ab hb2)
    have K2 := Lib.hid (K1.out.ab hb2)
    have T2 := Lib.hid (T1.out.ab hb2)
    have B2 := Lib.hid (below_tr B1.out hb2 B1.out.size)
    clear hv2 hb2 S1 L1 M1 K1 T1 B1 HOP x0 x1 x2 x3 x4 x5
    go_wp2_with fail
    refine (HTL.out _ _ w2 S2.out).mono ?_
    rintro e w3 ⟨rfl, hb3⟩
    have P3 := Lib.hid (P2.out.ab hb3)
    have S3 := Lib.hid (S2.out.ab hb3)
    have L3 := Lib.hid (L2.out.ab hb3)
    have M3 := Lib.hid (M2.out.ab hb3)
    have K3 := Lib.hid (K2.out.ab hb3)
    have T3 := Lib.hid (T2.out.ab hb3)
    have B3 := Lib.hid (below_tr B2.out hb3 B2.out.size)
    clear hb3 P2 S2 L2 M2 K2 T2 B2 HTL
    obtain ⟨x0, x1, x2, x3, x4, x5⟩ := L3.out.cells
    obtain ⟨y0, y1, y2, y3, y4, y5⟩ := M3.out.cells
    have hst1 : (convert 22 9 (.slice A2 224 c2)).run Try.prog w3 = .ok (.string (strOf text)) w3 := run_str P3.out _ _ _ Try.underlying22 Try.underlying5 Try.underlying9
    have hst2 : (convert 22 9 (.slice tA 224 tc)).run Try.prog w3 = .ok (.string (strOf text)) w3 := run_str T3.out _ _ _ Try.underlying22 Try.underlying5 Try.underlying9
    go_wp2_with fail
    refine (HOM.out _ _ w3 K3.out S3.out).mono ?_
    rintro e w7 ⟨v7, rfl, hv7, hb7⟩
    obtain ⟨A7, c7, rfl, -, -⟩ := hv7.shape
    have L7 := Lib.hid (L3.out.ab hb7)
    have M7 := Lib.hid (M3.out.ab hb7)
    have B7 := Lib.hid (below_tr B3.out hb7 B3.out.size)
    clear hv7 hb7 P3 S3 L3 M3 K3 T3 B3 HOM x0 x1 x2 x3 x4 x5 y0 y1 y2 y3 y4 y5 hst1 hst2
    obtain ⟨x0, x1, x2, x3, x4, x5⟩ := L7.out.cells
    obtain ⟨y0, y1, y2, y3, y4, y5⟩ := M7.out.cells
    clear L7 M7
    have hcs := HCS.out
    clear HCS
    simp only [Prod.mk.injEq] at hcs
    rcases hcs with ⟨hml, he⟩ | ⟨hml, hk, ho, he⟩ | ⟨hml, hk, hh, ho, he⟩ | ⟨hml, hk, hh, he⟩
    · subst hml
      subst he
      have hq := fun W => HEQ.out W
      simp only [decide_true] at hq
      clear HEQ
      go_wp2_with fail
      refine (known10_any _).mono ?_
      rintro e w9 ⟨rfl, b9⟩
      have B9 := Lib.hid (below_tr B7.out b9 B7.out.size)
      clear b9
      go_wp2_with fail
      go_ret
      exact ⟨rfl, B9.out⟩
    · have hq := fun W => HEQ.out W
      rw [decide_eq_false hml] at hq
      subst ho he
      clear HEQ
      refine two_ways (decide ((m.k : Int) < 1)) (decide ((4 : Int) < (m.k : Int))) _ (fun h1 => ?_) (fun h1 h2 => ?_) (by simp only [decide_eq_true_eq]; omega)
      all_goals
        clear hk hml
        go_wp2_with fail
        refine (known10_any _).mono ?_
        rintro e w9 ⟨rfl, b9⟩
        have B9 := Lib.hid (below_tr B7.out b9 B7.out.size)
        clear b9
        go_wp2_with fail
        go_ret
        exact ⟨rfl, B9.out⟩
    · have hq := fun W => HEQ.out W
      rw [decide_eq_false hml] at hq
      subst ho he
      clear HEQ
      have k1 : decide ((m.k : Int) < 1) = false := by simp; omega
      have k2 : decide ((4 : Int) < (m.k : Int)) = false := by simp; omega
      have hf : (((m.k : Int) != (l.k : Int)) = true) ∨ (((m.k : Int) != (l.k : Int)) = false ∧ ((m.lv : Int) != (l.lv : Int)) = true) ∨ (((m.k : Int) != (l.k : Int)) = false ∧ ((m.lv : Int) != (l.lv : Int)) = false ∧ ((m.gn : Int) != (l.gn : Int)) = true) ∨ (((m.k : Int) != (l.k : Int)) = false ∧ ((m.lv : Int) != (l.lv : Int)) = false ∧ ((m.gn : Int) != (l.gn : Int)) = false ∧ ((m.cm : Int) != (l.cm : Int)) = true) := by
        simp only [bne_iff_ne, bne_eq_false_iff_eq, ne_eq]
        omega
      clear hk hml hh
      rcases hf with f1 | ⟨f1, f2⟩ | ⟨f1, f2, f3⟩ | ⟨f1, f2, f3, f4⟩
      all_goals
        go_wp2_with fail
        refine (known10_any _).mono ?_
        rintro e w9 ⟨rfl, b9⟩
        have B9 := Lib.hid (below_tr B7.out b9 B7.out.size)
        clear b9
        go_wp2_with fail
        go_ret
        exact ⟨rfl, B9.out⟩
    · have hq := fun W => HEQ.out W
      rw [decide_eq_false hml] at hq
      clear HEQ
      have k1 : decide ((m.k : Int) < 1) = false := by simp; omega
      have k2 : decide ((4 : Int) < (m.k : Int)) = false := by simp; omega
      obtain ⟨e1, e2, e3, e4⟩ := hh
      have f1 : ((m.k : Int) != (l.k : Int)) = false := by rw [e1]; simp
      have f2 : ((m.lv : Int) != (l.lv : Int)) = false := by rw [e2]; simp
      have f3 : ((m.gn : Int) != (l.gn : Int)) = false := by rw [e3]; simp
      have f4 : ((m.cm : Int) != (l.cm : Int)) = false := by rw [e4]; simp
      clear hk hml e1 e2 e3 e4
      rcases he with rfl | rfl
      all_goals
        go_wp2_with fail
        refine (known10_any _).mono ?_
        rintro e w9 ⟨rfl, b9⟩
        have B9 := Lib.hid (below_tr B7.out b9 B7.out.size)
        clear b9
        go_wp2_with fail
        go_ret
        exact ⟨rfl, B9.out⟩
  · have hs : sealP key l text = ([], 2) := by unfold sealP; rw [if_neg hS]
    rw [hs] at hse
    have HSE := Lib.hid hse
    clear hse hs hS hl hm ik it lt
    obtain ⟨x0, x1, x2, x3, x4, x5⟩ := XL.out.cells
    go_enter Try.func16, Try.ntmps16
    go_wp2_with fail
    refine (HSE.out _ IK.out IT.out).mono ?_
    rintro e w7 ⟨v1, rfl, hv1, hb1⟩
    obtain ⟨A1, c1, rfl, -, -⟩ := hv1.shape
    have B7 := Lib.hid (below_tr B0.out hb1 B0.out.size)
    clear hv1 hb1
    go_wp2_with fail
    refine (known10_any _).mono ?_
    rintro e w9 ⟨rfl, b9⟩
    have B9 := Lib.hid (below_tr B7.out b9 B7.out.size)
    clear b9
    go_wp2_with fail
    go_ret
    exact ⟨rfl, B9.out⟩
set_option maxRecDepth 100000 in
theorem lback_walk (kA : Option Addr) (kn kc : Nat) (zk : List Int) (v u : Value) (tA : Option Addr) (tn tc : Nat) (zt : List Int) (w : World) (hk : IsRow .u8 w kA kn kc zk) (sk : kc * 1 ≤ 140737488351232)
    (hv : ∃ base, Value.okWide Try.prog w .any base 54 v) {H : Type} {enc : TypeId × Value → H} {d : DataW H} {p : List MemPlace} (_ : DataW.Trod enc Try.prog w 0 (fun _ => true) true 54 v d p) (_ : ∀ x ∈ p, x.block < w.heap.size)
    (hu : ∃ base, Value.okWide Try.prog w .any base 54 u) {d' : DataW H} {p' : List MemPlace} (_ : DataW.Trod enc Try.prog w 0 (fun _ => true) true 54 u d' p') (_ : ∀ x ∈ p', x.block < w.heap.size)
    (ht : IsRow .u8 w tA tn tc zt) (st : tc * 1 ≤ 140737488351232) :
    Calls Try.prog 16 #[.slice kA kn kc, v, u, .slice tA tn tc] w fun e w' => e = .returned (.bool true) ∧ Below w.heap.size w w' := by
  obtain ⟨base, hv⟩ := hv
  obtain ⟨l, rfl, hl⟩ := open_label hv
  obtain ⟨base', hu⟩ := hu
  obtain ⟨m, rfl, hm⟩ := open_label hu
  obtain ⟨key, rfl, bk⟩ := byt_of_row hk
  obtain ⟨text, rfl, bt⟩ := byt_of_row ht
  exact lback_any kA tA kn kc tn tc l m key text w hl hm ⟨hk, bk⟩ ⟨ht, bt⟩
end Go.Proofs.Ytpofndciepoooaa
