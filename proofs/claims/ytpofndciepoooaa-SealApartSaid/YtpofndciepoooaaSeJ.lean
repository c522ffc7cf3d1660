/-
  SealBack: the walk.
  SealApart: the walk.
-/
import Derived.Test.YtpofndciepoooaaSeG
namespace Go.Proofs.Ytpofndciepoooaa
open Go.RowKit
set_option linter.unusedVariables false

set_option maxRecDepth 100000 in
set_option maxHeartbeats 4000000 in
theorem eq_lab (a b : Lb) (W : World) : (Op.equalIn 10000 54 (.agg #[.int .u32 (a.ten : Int), .int .u8 (a.k : Int), .int .u8 (a.lv : Int), .int .u32 (a.pg : Int), .int .u64 (a.cm : Int), .int .u16 (a.gn : Int)]) (.agg #[.int .u32 (b.ten : Int), .int .u8 (b.k : Int), .int .u8 (b.lv : Int), .int .u32 (b.pg : Int), .int .u64 (b.cm : Int), .int .u16 (b.gn : Int)])).run Try.prog W = .ok (decide (a = b)) W := by
  obtain ⟨a1, a2, a3, a4, a5, a6⟩ := a
  obtain ⟨b1, b2, b3, b4, b5, b6⟩ := b
  have hd : decide ((⟨a1, a2, a3, a4, a5, a6⟩ : Lb) = ⟨b1, b2, b3, b4, b5, b6⟩) = (decide (a1 = b1) && decide (a2 = b2) && decide (a3 = b3) && decide (a4 = b4) && decide (a5 = b5) && decide (a6 = b6)) := by
    rw [← Bool.decide_and, ← Bool.decide_and, ← Bool.decide_and, ← Bool.decide_and, ← Bool.decide_and, decide_eq_decide]
    simp [and_assoc]
  rw [hd]
  go_simp
  by_cases h1 : a1 = b1
  · by_cases h2 : a2 = b2
    · by_cases h3 : a3 = b3
      · by_cases h4 : a4 = b4
        · by_cases h5 : a5 = b5
          · by_cases h6 : a6 = b6
            · simp [h1, h2, h3, h4, h5, h6]
            · simp [h1, h2, h3, h4, h5, h6]
              omega
          · simp [h1, h2, h3, h4, h5]
            omega
        · simp [h1, h2, h3, h4]
          omega
      · simp [h1, h2, h3]
        omega
    · simp [h1, h2]
      omega
  · simp [h1]
    omega
theorem digB_inj {a b n : Nat} (ha : a < 256 ^ n) (hb : b < 256 ^ n) (h : digB a n = digB b n) : a = b := by
  have := congrArg numB h
  rwa [numB_digB a n ha, numB_digB b n hb] at this
theorem headL_inj {a b : Lb} (ha : a.Ok) (hb : b.Ok) (h : headL a = headL b) : a.k = b.k ∧ a.lv = b.lv ∧ a.gn = b.gn ∧ a.cm = b.cm := by
  unfold headL headN at h
  simp only [flatN, List.append_nil] at h
  have h1 := List.append_cancel_left h
  obtain ⟨e1, h2⟩ := List.append_inj h1 (by rw [digB_len, digB_len])
  obtain ⟨e2, h3⟩ := List.append_inj h2 (by rw [digB_len, digB_len])
  obtain ⟨e3, e4⟩ := List.append_inj h3 (by rw [digB_len, digB_len])
  have a1 := ha.k; have a2 := ha.lv; have a3 := ha.gn; have a4 := ha.cm
  have b1 := hb.k; have b2 := hb.lv; have b3 := hb.gn; have b4 := hb.cm
  exact ⟨digB_inj a1 b1 e1, digB_inj a2 b2 e2, digB_inj a3 b3 e3, digB_inj a4 b4 e4⟩
theorem headL_same {a b : Lb} (h1 : a.k = b.k) (h2 : a.lv = b.lv) (h3 : a.gn = b.gn) (h4 : a.cm = b.cm) : headL a = headL b := by
  unfold headL headN
  rw [h1, h2, h3, h4]
theorem openS_err {key nonce aad s : List Nat} (hG : GOk key nonce) (ha : aad.length ≤ 65536) (hs : 16 ≤ s.length) (hs2 : s.length ≤ 65552) : (openS key nonce aad s).2 = 60 ∨ (openS key nonce aad s).2 = 0 := by
  unfold openS
  rw [if_pos hG, if_neg (by omega), if_neg (by omega)]
  split
  · exact .inr rfl
  · exact .inl rfl
theorem told_seal {l : Lb} (hl : l.Ok) (h1 : 1 ≤ l.k) (h4 : l.k ≤ 4) {X : List Nat} (hX : X.length = 240) : toldP (headL l ++ X) = ⟨l.k, l.lv, l.gn, l.cm, 0⟩ := by
  have a1 := hl.k; have a2 := hl.lv; have a3 := hl.gn; have a4 := hl.cm
  have e : headL l ++ X = magL ++ ([l.k] ++ ([l.lv] ++ (digB l.gn 2 ++ (digB l.cm 8 ++ X)))) := by
    unfold headL headN
    simp only [flatN, digB_one a1, digB_one a2, List.append_nil, List.append_assoc]
    rfl
  have hlen : (headL l ++ X).length = 256 := by rw [List.length_append, headL_len, hX]
  have k4 : at' (headL l ++ X) 4 = l.k := by rw [e]; rfl
  have k5 : at' (headL l ++ X) 5 = l.lv := by rw [e]; rfl
  have t4 : (headL l ++ X).take 4 = magL := by rw [e]; rfl
  have d6 : (headL l ++ X).drop 6 = digB l.gn 2 ++ (digB l.cm 8 ++ X) := by rw [e]; rfl
  have d8 : (headL l ++ X).drop 8 = digB l.cm 8 ++ X := by
    rw [show (8 : Nat) = 6 + 2 from rfl, ← List.drop_drop, d6, List.drop_append_of_le_length (by rw [digB_len]; decide), List.drop_of_length_le (by rw [digB_len]; decide), List.nil_append]
  unfold toldP
  rw [if_pos hlen, if_pos ⟨t4, by rw [k4]; exact ⟨h1, h4⟩⟩, k4, k5, d6, d8, List.take_append_of_le_length (by rw [digB_len]; decide), List.take_of_length_le (by rw [digB_len]; decide), List.take_append_of_le_length (by rw [digB_len]; decide), List.take_of_length_le (by rw [digB_len]; decide), numB_digB _ 2 a3, numB_digB _ 8 a4]
/-- what comes of the other label -/
theorem other_cases {key text : List Nat} {l m : Lb} (hl : l.Ok) (hm : m.Ok) (hS : SOk key l) (ht : text.length = 224) :
    (m = l ∧ (openP key m (headL l ++ sealA key (nonceL l) (aadL l) text)).2 = 0) ∨
    (m ≠ l ∧ ¬ (1 ≤ m.k ∧ m.k ≤ 4) ∧ openP key m (headL l ++ sealA key (nonceL l) (aadL l) text) = ([], 2)) ∨
    (m ≠ l ∧ (1 ≤ m.k ∧ m.k ≤ 4) ∧ ¬ (m.k = l.k ∧ m.lv = l.lv ∧ m.gn = l.gn ∧ m.cm = l.cm) ∧ openP key m (headL l ++ sealA key (nonceL l) (aadL l) text) = ([], 100)) ∨
    (m ≠ l ∧ (1 ≤ m.k ∧ m.k ≤ 4) ∧ (m.k = l.k ∧ m.lv = l.lv ∧ m.gn = l.gn ∧ m.cm = l.cm) ∧ ((openP key m (headL l ++ sealA key (nonceL l) (aadL l) text)).2 = 60 ∨ (openP key m (headL l ++ sealA key (nonceL l) (aadL l) text)).2 = 0)) := by
  by_cases hml : m = l
  · left
    subst hml
    exact ⟨rfl, by rw [openP_seal hS ht]⟩
  · right
    by_cases hk : 1 ≤ m.k ∧ m.k ≤ 4
    · right
      by_cases hh : m.k = l.k ∧ m.lv = l.lv ∧ m.gn = l.gn ∧ m.cm = l.cm
      · right
        refine ⟨hml, hk, hh, ?_⟩
        have he : headL l = headL m := headL_same hh.1.symm hh.2.1.symm hh.2.2.1.symm hh.2.2.2.symm
        unfold openP
        rw [if_pos ⟨⟨hS.1, hk⟩, lsealA_len key l ht⟩, lseal_take, if_pos he, lseal_drop]
        exact openS_err ⟨hS.1, nonceL_len m⟩ (by rw [aadL_len]; decide) (by rw [sealA_len]; omega) (by rw [sealA_len]; omega)
      · left
        exact ⟨hml, hk, hh, openP_other ⟨hS.1, hk⟩ ht (fun e => hh (by obtain ⟨a, b, c, d⟩ := headL_inj hl hm e; exact ⟨a.symm, b.symm, c.symm, d.symm⟩))⟩
    · left
      refine ⟨hml, hk, ?_⟩
      unfold openP
      rw [if_neg (fun h => hk h.1.2)]
-- WALK
set_option maxRecDepth 100000 in
set_option maxHeartbeats 8000000 in
theorem lback_any (kA tA : Option Addr) (kn kc tn tc : Nat) (l m : Lb) (key text : List Nat) (w : World) (hl : l.Ok) (hm : m.Ok) (ik : IsB w kA kn kc key) (it : IsB w tA tn tc text) :
    Calls Try.prog 16 #[.slice kA kn kc, .agg (lab l), .agg (lab m), .slice tA tn tc] w fun e w' => e = .returned (.bool true) ∧ Below w.heap.size w w' := by
  have lt := it.len
  have XL : Hid (LbB ((w.alloc (.cells (lab l) 54)).alloc (.cells (lab m) 54)) w.heap.size l) := Lib.hid ((show LbB (w.alloc (.cells (lab l) 54)) w.heap.size l from heap_alloc_new w _).alloc _)
  have XM : Hid (LbB ((w.alloc (.cells (lab l) 54)).alloc (.cells (lab m) 54)) (w.heap.size + 1) m) := Lib.hid (by
    have := heap_alloc_new (w.alloc (.cells (lab l) 54)) (.cells (lab m) 54)
    rw [show (w.alloc (.cells (lab l) 54)).heap.size = w.heap.size + 1 by simp] at this
    exact this)
  have IK : Hid (IsB ((w.alloc (.cells (lab l) 54)).alloc (.cells (lab m) 54)) kA kn kc key) := Lib.hid ((ik.alloc _).alloc _)
  have IT : Hid (IsB ((w.alloc (.cells (lab l) 54)).alloc (.cells (lab m) 54)) tA tn tc text) := Lib.hid ((it.alloc _).alloc _)
  have B0 : Hid (Below w.heap.size w ((w.alloc (.cells (lab l) 54)).alloc (.cells (lab m) 54))) := Lib.hid (((Below.refl _ _).alloc (Nat.le_refl _) _).alloc (Nat.le_of_lt (by simp)) _)
  have hse := fun W h1 h2 => lseal_any kA tA kn kc tn tc l key text W hl h1 h2
  by_cases hS : SOk key l ∧ text.length = 224
  · obtain ⟨hS, ht⟩ := hS
    obtain rfl : tn = 224 := by omega
    rw [sealP_ok hS ht] at hse
    have hop := fun A c W h1 h2 => lopen_any kA A kn kc 256 c l key (headL l ++ sealA key (nonceL l) (aadL l) text) W hl h1 h2
    rw [openP_seal hS ht] at hop
    have htl := fun A c W h2 => told_any A 256 c (headL l ++ sealA key (nonceL l) (aadL l) text) W h2
    rw [told_seal hl hS.2.1 hS.2.2 (by rw [sealA_len]; omega)] at htl
    have hom := fun A c W h1 h2 => lopen_any kA A kn kc 256 c m key (headL l ++ sealA key (nonceL l) (aadL l) text) W hm h1 h2
    have hcs := other_cases hl hm hS ht
    have hln := lsealA_len key l ht
    have heq := fun W => eq_lab m l W
    generalize headL l ++ sealA key (nonceL l) (aadL l) text = S at *
    generalize hou : openP key m S = R at *
    clear hou
    obtain ⟨out, err⟩ := R
    have HSE := Lib.hid hse
    have HOP := Lib.hid hop
    have HTL : Hid (∀ A c W, IsB W A 256 c S → Calls Try.prog 49 #[.slice A 256 c] W fun e w' => e = .returned (.tuple #[.int .u8 (l.k : Int), .int .u8 (l.lv : Int), .int .u16 (l.gn : Int), .int .u64 (l.cm : Int), .int .i64 0]) ∧ Below W.heap.size W w') := Lib.hid htl
    have HOM := Lib.hid hom
    have HCS := Lib.hid hcs
    have HLN := Lib.hid hln
    have HTX := Lib.hid ht
    have HEQ := Lib.hid heq
    clear hse hop htl hom hcs hln ht heq hS hl hm ik it lt
    obtain ⟨x0, x1, x2, x3, x4, x5⟩ := XL.out.cells
    go_enter Try.func16, Try.ntmps16
    go_wp2_with fail
    generalize ((w.alloc (.cells (lab l) 54)).alloc (.cells (lab m) 54)) = w0 at *
    refine (HSE.out w0 IK.out IT.out).mono ?_
    rintro e w1 ⟨v1, rfl, hv1, hb1⟩
    obtain ⟨A1, c1, rfl, -, -⟩ := hv1.shape
    rw [HLN.out] at hv1 ⊢
    have S1 := Lib.hid (hv1.isB HLN.out)
    have L1 := Lib.hid (XL.out.ab hb1)
    have M1 := Lib.hid (XM.out.ab hb1)
    have K1 := Lib.hid (IK.out.ab hb1)
    have T1 := Lib.hid (IT.out.ab hb1)
    have B1 := Lib.hid (below_tr B0.out hb1 B0.out.size)
    clear hv1 hb1 XL XM IK IT B0 HSE x0 x1 x2 x3 x4 x5
    obtain ⟨x0, x1, x2, x3, x4, x5⟩ := L1.out.cells
    go_wp2_with fail
    refine (HOP.out _ _ w1 K1.out S1.out).mono ?_
    rintro e w2 ⟨v2, rfl, hv2, hb2⟩
    obtain ⟨A2, c2, rfl, -, -⟩ := hv2.shape
    rw [HTX.out] at hv2 ⊢
    have P2 := Lib.hid (hv2.isB HTX.out)
    have S2 := Lib.hid (S1.out.ab hb2)
    have L2 := Lib.hid (L1.out.ab hb2)
    have M2 := Lib.hid (M1.out.ab hb2)
    have K2 := Lib.hid (K1.out.ab hb2)
    have T2 := Lib.hid (T1.out.ab hb2)
    have B2 := Lib.hid (below_tr B1.out hb2 B1.out.size)
    clear hv2 hb2 S1 L1 M1 K1 T1 B1 HOP x0 x1 x2 x3 x4 x5
    go_wp2_with fail
    refine (HTL.out _ _ w2 S2.out).mono ?_
    rintro e w3 ⟨rfl, hb3⟩
    have P3 := Lib.hid (P2.out.ab hb3)
    have S3 := Lib.hid (S2.out.ab hb3)
    have L3 := Lib.hid (L2.out.ab hb3)
    have M3 := Lib.hid (M2.out.ab hb3)
    have K3 := Lib.hid (K2.out.ab hb3)
    have T3 := Lib.hid (T2.out.ab hb3)
    have B3 := Lib.hid (below_tr B2.out hb3 B2.out.size)
    clear hb3 P2 S2 L2 M2 K2 T2 B2 HTL
    obtain ⟨x0, x1, x2, x3, x4, x5⟩ := L3.out.cells
    obtain ⟨y0, y1, y2, y3, y4, y5⟩ := M3.out.cells
    have hst1 : (convert 22 9 (.slice A2 224 c2)).run Try.prog w3 = .ok (.string (strOf text)) w3 := run_str P3.out _ _ _ Try.underlying22 Try.underlying5 Try.underlying9
    have hst2 : (convert 22 9 (.slice tA 224 tc)).run Try.prog w3 = .ok (.string (strOf text)) w3 := run_str T3.out _ _ _ Try.underlying22 Try.underlying5 Try.underlying9
    go_wp2_with fail
    refine (HOM.out _ _ w3 K3.out S3.out).mono ?_
    rintro e w7 ⟨v7, rfl, hv7, hb7⟩
    obtain ⟨A7, c7, rfl, -, -⟩ := hv7.shape
    have L7 := Lib.hid (L3.out.ab hb7)
    have M7 := Lib.hid (M3.out.ab hb7)
    have B7 := Lib.hid (below_tr B3.out hb7 B3.out.size)
    clear hv7 hb7 P3 S3 L3 M3 K3 T3 B3 HOM x0 x1 x2 x3 x4 x5 y0 y1 y2 y3 y4 y5 hst1 hst2
    obtain ⟨x0, x1, x2, x3, x4, x5⟩ := L7.out.cells
    obtain ⟨y0, y1, y2, y3, y4, y5⟩ := M7.out.cells
    clear L7 M7
    have hcs := HCS.out
    clear HCS
    simp only [Prod.mk.injEq] at hcs
    rcases hcs with ⟨hml, he⟩ | ⟨hml, hk, ho, he⟩ | ⟨hml, hk, hh, ho, he⟩ | ⟨hml, hk, hh, he⟩
    · subst hml
      subst he
      have hq := fun W => HEQ.out W
      simp only [decide_true] at hq
      clear HEQ
      go_wp2_with fail
      refine (known10_any _).mono ?_
      rintro e w9 ⟨rfl, b9⟩
      have B9 := Lib.hid (below_tr B7.out b9 B7.out.size)
      clear b9
      go_wp2_with fail
      go_ret
      exact ⟨rfl, B9.out⟩
    · have hq := fun W => HEQ.out W
      rw [decide_eq_false hml] at hq
      subst ho he
      clear HEQ
      refine two_ways (decide ((m.k : Int) < 1)) (decide ((4 : Int) < (m.k : Int))) _ (fun h1 => ?_) (fun h1 h2 => ?_) (by simp only [decide_eq_true_eq]; omega)
      all_goals
        clear hk hml
        go_wp2_with fail
        refine (known10_any _).mono ?_
        rintro e w9 ⟨rfl, b9⟩
        have B9 := Lib.hid (below_tr B7.out b9 B7.out.size)
        clear b9
        go_wp2_with fail
        go_ret
        exact ⟨rfl, B9.out⟩
    · have hq := fun W => HEQ.out W
      rw [decide_eq_false hml] at hq
      subst ho he
      clear HEQ
      have k1 : decide ((m.k : Int) < 1) = false := by simp; omega
      have k2 : decide ((4 : Int) < (m.k : Int)) = false := by simp; omega
      have hf : (((m.k : Int) != (l.k : Int)) = true) ∨ (((m.k : Int) != (l.k : Int)) = false ∧ ((m.lv : Int) != (l.lv : Int)) = true) ∨ (((m.k : Int) != (l.k : Int)) = false ∧ ((m.lv : Int) != (l.lv : Int)) = false ∧ ((m.gn : Int) != (l.gn : Int)) = true) ∨ (((m.k : Int) != (l.k : Int)) = false ∧ ((m.lv : Int) != (l.lv : Int)) = false ∧ ((m.gn : Int) != (l.gn : Int)) = false ∧ ((m.cm : Int) != (l.cm : Int)) = true) := by
        simp only [bne_iff_ne, bne_eq_false_iff_eq, ne_eq]
        omega
      clear hk hml hh
      rcases hf with f1 | ⟨f1, f2⟩ | ⟨f1, f2, f3⟩ | ⟨f1, f2, f3, f4⟩
      all_goals
        go_wp2_with fail
        refine (known10_any _).mono ?_
        rintro e w9 ⟨rfl, b9⟩
        have B9 := Lib.hid (below_tr B7.out b9 B7.out.size)
        clear b9
        go_wp2_with fail
        go_ret
        exact ⟨rfl, B9.out⟩
    · have hq := fun W => HEQ.out W
      rw [decide_eq_false hml] at hq
      clear HEQ
      have k1 : decide ((m.k : Int) < 1) = false := by simp; omega
      have k2 : decide ((4 : Int) < (m.k : Int)) = false := by simp; omega
      obtain ⟨e1, e2, e3, e4⟩ := hh
      have f1 : ((m.k : Int) != (l.k : Int)) = false := by rw [e1]; simp
      have f2 : ((m.lv : Int) != (l.lv : Int)) = false := by rw [e2]; simp
      have f3 : ((m.gn : Int) != (l.gn : Int)) = false := by rw [e3]; simp
      have f4 : ((m.cm : Int) != (l.cm : Int)) = false := by rw [e4]; simp
      clear hk hml e1 e2 e3 e4
      rcases he with rfl | rfl
      all_goals
        go_wp2_with fail
        refine (known10_any _).mono ?_
        rintro e w9 ⟨rfl, b9⟩
        have B9 := Lib.hid (below_tr B7.out b9 B7.out.size)
        clear b9
        go_wp2_with fail
        go_ret
        exact ⟨rfl, B9.out⟩
  · have hs : sealP key l text = ([], 2) := by unfold sealP; rw [if_neg hS]
    rw [hs] at hse
    have HSE := Lib.hid hse
    clear hse hs hS hl hm ik it lt
    obtain ⟨x0, x1, x2, x3, x4, x5⟩ := XL.out.cells
    go_enter Try.func16, Try.ntmps16
    go_wp2_with fail
    refine (HSE.out _ IK.out IT.out).mono ?_
    rintro e w7 ⟨v1, rfl, hv1, hb1⟩
    obtain ⟨A1, c1, rfl, -, -⟩ := hv1.shape
    have B7 := Lib.hid (below_tr B0.out hb1 B0.out.size)
    clear hv1 hb1
    go_wp2_with fail
    refine (known10_any _).mono ?_
    rintro e w9 ⟨rfl, b9⟩
    have B9 := Lib.hid (below_tr B7.out b9 B7.out.size)
    clear b9
    go_wp2_with fail
    go_ret
    exact ⟨rfl, B9.out⟩
set_option maxRecDepth 100000 in
theorem lback_walk (kA : Option Addr) (kn kc : Nat) (zk : List Int) (v u : Value) (tA : Option Addr) (tn tc : Nat) (zt : List Int) (w : World) (hk : IsRow .u8 w kA kn kc zk) (sk : kc * 1 ≤ 140737488351232)
    (hv : ∃ base, Value.okWide Try.prog w .any base 54 v) {H : Type} {enc : TypeId × Value → H} {d : DataW H} {p : List MemPlace} (_ : DataW.Trod enc Try.prog w 0 (fun _ => true) true 54 v d p) (_ : ∀ x ∈ p, x.block < w.heap.size)
    (hu : ∃ base, Value.okWide Try.prog w .any base 54 u) {d' : DataW H} {p' : List MemPlace} (_ : DataW.Trod enc Try.prog w 0 (fun _ => true) true 54 u d' p') (_ : ∀ x ∈ p', x.block < w.heap.size)
    (ht : IsRow .u8 w tA tn tc zt) (st : tc * 1 ≤ 140737488351232) :
    Calls Try.prog 16 #[.slice kA kn kc, v, u, .slice tA tn tc] w fun e w' => e = .returned (.bool true) ∧ Below w.heap.size w w' := by
  obtain ⟨base, hv⟩ := hv
  obtain ⟨l, rfl, hl⟩ := open_label hv
  obtain ⟨base', hu⟩ := hu
  obtain ⟨m, rfl, hm⟩ := open_label hu
  obtain ⟨key, rfl, bk⟩ := byt_of_row hk
  obtain ⟨text, rfl, bt⟩ := byt_of_row ht
  exact lback_any kA tA kn kc tn tc l m key text w hl hm ⟨hk, bk⟩ ⟨ht, bt⟩
end Go.Proofs.Ytpofndciepoooaa

namespace Go.Proofs.Ytpofndciepoooaa
open Go.RowKit
set_option linter.unusedVariables false

theorem headL_byt (l : Lb) (h : l.Ok) : Byt (headL l) := by
  have : ∀ (ps : List (Nat × Nat)), Byt (flatN ps) := fun ps => by
    induction ps with
    | nil => exact fun x hx => by cases hx
    | cons p ps ih => exact byt_app (digB_byt _ _) ih
  exact byt_app (fun x hx => by simp at hx; omega) (this _)
theorem flatN_byt : ∀ (ps : List (Nat × Nat)), Byt (flatN ps)
  | [] => fun x hx => by cases hx
  | p :: ps => byt_app (digB_byt _ _) (flatN_byt ps)
theorem nonceL_inj {a b : Lb} (ha : a.Ok) (hb : b.Ok) (h : nonceL a = nonceL b) : a.pg = b.pg ∧ a.cm = b.cm := by
  unfold nonceL nonceN at h
  simp only [flatN, List.append_nil] at h
  obtain ⟨e1, e2⟩ := List.append_inj h (by rw [digB_len, digB_len])
  have a1 := ha.pg; have a4 := ha.cm; have b1 := hb.pg; have b4 := hb.cm
  exact ⟨digB_inj a1 b1 e1, digB_inj a4 b4 e2⟩
theorem aadL_inj {a b : Lb} (ha : a.Ok) (hb : b.Ok) (h : aadL a = aadL b) : a.ten = b.ten := by
  unfold aadL aadN at h
  simp only [flatN, List.append_nil] at h
  obtain ⟨e1, _⟩ := List.append_inj h (by rw [digB_len, digB_len])
  have a1 := ha.ten; have b1 := hb.ten
  exact digB_inj a1 b1 e1
theorem lb_all {a b : Lb} (ha : a.Ok) (hb : b.Ok) : decide (a = b) = (decide (headL a = headL b) && decide (nonceL a = nonceL b) && decide (aadL a = aadL b)) := by
  by_cases h : a = b
  · subst h; simp
  · rw [decide_eq_false h]
    by_cases h1 : headL a = headL b
    · by_cases h2 : nonceL a = nonceL b
      · by_cases h3 : aadL a = aadL b
        · exfalso
          obtain ⟨p1, p2, p3, p4⟩ := headL_inj ha hb h1
          obtain ⟨p5, _⟩ := nonceL_inj ha hb h2
          have p6 := aadL_inj ha hb h3
          obtain ⟨a1, a2, a3, a4, a5, a6⟩ := a
          obtain ⟨b1, b2, b3, b4, b5, b6⟩ := b
          simp only at p1 p2 p3 p4 p5 p6
          exact h (by rw [p1, p2, p3, p4, p5, p6])
        · simp [h3]
      · simp [h2]
    · simp [h1]
theorem nonce_two {a b : Lb} (ha : a.Ok) (hb : b.Ok) : decide (nonceL a = nonceL b) = (decide (a.pg = b.pg) && decide (a.cm = b.cm)) := by
  by_cases h : nonceL a = nonceL b
  · obtain ⟨h1, h2⟩ := nonceL_inj ha hb h
    rw [decide_eq_true h, decide_eq_true h1, decide_eq_true h2]; rfl
  · rw [decide_eq_false h]
    by_cases h1 : a.pg = b.pg
    · by_cases h2 : a.cm = b.cm
      · exact absurd (by unfold nonceL nonceN; rw [h1, h2]) h
      · simp [h2]
    · simp [h1]
set_option maxRecDepth 100000 in
set_option maxHeartbeats 4000000 in
theorem apart_any (l m : Lb) (w : World) (ha : l.Ok) (hb : m.Ok) : Calls Try.prog 14 #[.agg (lab l), .agg (lab m)] w fun e w' => e = .returned (.bool true) ∧ Below w.heap.size w w' := by
  have XA : Hid (LbB ((w.alloc (.cells (lab l) 54)).alloc (.cells (lab m) 54)) w.heap.size l) := Lib.hid ((show LbB (w.alloc (.cells (lab l) 54)) w.heap.size l from heap_alloc_new w _).alloc _)
  have XB : Hid (LbB ((w.alloc (.cells (lab l) 54)).alloc (.cells (lab m) 54)) (w.heap.size + 1) m) := Lib.hid (by
    have := heap_alloc_new (w.alloc (.cells (lab l) 54)) (.cells (lab m) 54)
    rw [show (w.alloc (.cells (lab l) 54)).heap.size = w.heap.size + 1 by simp] at this
    exact this)
  have B0 : Hid (Below w.heap.size w ((w.alloc (.cells (lab l) 54)).alloc (.cells (lab m) 54))) := Lib.hid (((Below.refl _ _).alloc (Nat.le_refl _) _).alloc (Nat.le_of_lt (by simp)) _)
  have hqh := str_eq (headL_byt l ha) (headL_byt m hb)
  have hqn := str_eq (x := nonceL l) (y := nonceL m) (flatN_byt _) (flatN_byt _)
  have hqa := str_eq (x := aadL l) (y := aadL m) (flatN_byt _) (flatN_byt _)
  have hall := lb_all ha hb
  have hnon := nonce_two ha hb
  have heq := fun W => eq_lab l m W
  rw [hall] at heq
  generalize decide (headL l = headL m) = qh at *
  generalize decide (nonceL l = nonceL m) = qn at *
  generalize decide (aadL l = aadL m) = qa at *
  have hpg : ((l.pg : Int) == (m.pg : Int)) = decide (l.pg = m.pg) := by by_cases h : l.pg = m.pg <;> simp [h] <;> omega
  have hcm : ((l.cm : Int) == (m.cm : Int)) = decide (l.cm = m.cm) := by by_cases h : l.cm = m.cm <;> simp [h] <;> omega
  generalize decide (l.pg = m.pg) = qp at *
  generalize decide (l.cm = m.cm) = qc at *
  have QH := Lib.hid hqh
  have QN := Lib.hid hqn
  have QA := Lib.hid hqa
  have HNON := Lib.hid hnon
  have HEQ := Lib.hid heq
  have HPG := Lib.hid hpg
  have HCM := Lib.hid hcm
  have HA := Lib.hid ha
  have HB := Lib.hid hb
  clear hqh hqn hqa hall hnon heq hpg hcm ha hb
  go_enter Try.func14, Try.ntmps14
  go_wp2_with fail
  obtain ⟨W0, hW0⟩ : ∃ W0, W0 = (w.alloc (.cells (lab l) 54)).alloc (.cells (lab m) 54) := ⟨_, rfl⟩
  change Code.wp _ _ _ _ ((w.alloc (.cells (lab l) 54)).alloc (.cells (lab m) 54))
  rw [← hW0] at XA XB B0 ⊢
  clear hW0
  refine wp_wide3 [⟨9, IsR (.agg #[.int .u32 (l.ten : Int), .int .u8 (l.k : Int), .int .u8 (l.lv : Int), .int .u32 (l.pg : Int), .int .u64 (l.cm : Int), .int .u16 (l.gn : Int)]), [], false⟩, ⟨10, OwR W0.heap.size (headL l), [0], false⟩, ⟨11, IsR (.string (strOf (headL l))), [1], false⟩, ⟨12, IsR (.agg #[.int .u32 (m.ten : Int), .int .u8 (m.k : Int), .int .u8 (m.lv : Int), .int .u32 (m.pg : Int), .int .u64 (m.cm : Int), .int .u16 (m.gn : Int)]), [], false⟩, ⟨13, OwR W0.heap.size (headL m), [3], false⟩, ⟨14, IsR (.string (strOf (headL m))), [4], false⟩, ⟨15, IsR (.bool qh), [2, 5], false⟩] (by kernel_rfl) (by kernel_rfl) rfl rfl rfl ⟨?_, ?_, ?_, ?_, ?_, ?_, ?_, trivial⟩ ?_
  · refine ⟨rfl, IsR.mono _, fun a W hA hb hd => takes_plain rfl (yields_value _ ?_ rfl)⟩
    have h2 : a.tmps[2]?.getD undef = .pointer (some ⟨w.heap.size, 0, none⟩) := (eval_get a 2).trans ((hA.eval (by simp)).trans rfl)
    obtain ⟨x0, x1, x2, x3, x4, x5⟩ := (XA.out.ab hb).cells
    go_simp
  · refine ⟨rfl, OwR.mono _ _, fun a W hA hb hd => takes_plain rfl ?_⟩
    have h9 : a.tmps[9]?.getD undef = .agg #[.int .u32 (l.ten : Int), .int .u8 (l.k : Int), .int .u8 (l.lv : Int), .int .u32 (l.pg : Int), .int .u64 (l.cm : Int), .int .u16 (l.gn : Int)] := (eval_get a 9).trans (hd 0 (by simp) _ rfl)
    refine yields_call 38 #[.agg #[.int .u32 (l.ten : Int), .int .u8 (l.k : Int), .int .u8 (l.lv : Int), .int .u32 (l.pg : Int), .int .u64 (l.cm : Int), .int .u16 (l.gn : Int)]] (by go_simp) ((headOf_any l W HA.out).mono ?_)
    rintro e W' ⟨v, rfl, hv, hb'⟩
    exact ⟨v, rfl, hv.lower hb.size, hb'⟩
  · refine ⟨rfl, IsR.mono _, fun a W hA hb hd => ?_⟩
    have oa : OwB W W0.heap.size (a.eval (.tmp 10)) (headL l) := hd 1 (by simp) _ rfl
    have ea := eval_get a 10
    generalize a.eval (.tmp 10) = va at *
    obtain ⟨Aa, ca, rfl, -, -⟩ := oa.shape
    have ia := oa.isB rfl
    have hst : (convert 22 9 (.slice Aa (headL l).length ca)).run Try.prog W = .ok (.string (strOf (headL l))) W := run_str ia _ _ _ Try.underlying22 Try.underlying5 Try.underlying9
    refine takes_plain rfl (yields_value (.string (strOf (headL l))) ?_ rfl)
    go_simp
  · refine ⟨rfl, IsR.mono _, fun a W hA hb hd => takes_plain rfl (yields_value _ ?_ rfl)⟩
    have h3 : a.tmps[3]?.getD undef = .pointer (some ⟨w.heap.size + 1, 0, none⟩) := (eval_get a 3).trans ((hA.eval (by simp)).trans rfl)
    obtain ⟨x0, x1, x2, x3, x4, x5⟩ := (XB.out.ab hb).cells
    go_simp
  · refine ⟨rfl, OwR.mono _ _, fun a W hA hb hd => takes_plain rfl ?_⟩
    have h12 : a.tmps[12]?.getD undef = .agg #[.int .u32 (m.ten : Int), .int .u8 (m.k : Int), .int .u8 (m.lv : Int), .int .u32 (m.pg : Int), .int .u64 (m.cm : Int), .int .u16 (m.gn : Int)] := (eval_get a 12).trans (hd 3 (by simp) _ rfl)
    refine yields_call 38 #[.agg #[.int .u32 (m.ten : Int), .int .u8 (m.k : Int), .int .u8 (m.lv : Int), .int .u32 (m.pg : Int), .int .u64 (m.cm : Int), .int .u16 (m.gn : Int)]] (by go_simp) ((headOf_any m W HB.out).mono ?_)
    rintro e W' ⟨v, rfl, hv, hb'⟩
    exact ⟨v, rfl, hv.lower hb.size, hb'⟩
  · refine ⟨rfl, IsR.mono _, fun a W hA hb hd => ?_⟩
    have oa : OwB W W0.heap.size (a.eval (.tmp 13)) (headL m) := hd 4 (by simp) _ rfl
    have ea := eval_get a 13
    generalize a.eval (.tmp 13) = va at *
    obtain ⟨Aa, ca, rfl, -, -⟩ := oa.shape
    have ia := oa.isB rfl
    have hst : (convert 22 9 (.slice Aa (headL m).length ca)).run Try.prog W = .ok (.string (strOf (headL m))) W := run_str ia _ _ _ Try.underlying22 Try.underlying5 Try.underlying9
    refine takes_plain rfl (yields_value (.string (strOf (headL m))) ?_ rfl)
    go_simp
  · refine ⟨rfl, IsR.mono _, fun a W hA hb hd => takes_plain rfl (yields_value _ ?_ rfl)⟩
    have h11 : a.tmps[11]?.getD undef = .string (strOf (headL l)) := (eval_get a 11).trans (hd 2 (by simp) _ rfl)
    have h14 : a.tmps[14]?.getD undef = .string (strOf (headL m)) := (eval_get a 14).trans (hd 5 (by simp) _ rfl)
    have hq := QH.out
    go_simp
  intro vs W1 hR hF hb
  have e15 : vs 15 = .bool qh := hR 6 _ rfl
  simp only [List.map_cons, List.map_nil, List.foldl_cons, List.foldl_nil, List.length_cons, List.length_nil, List.drop_succ_cons, List.drop_zero, Act.put, List.setIfInBounds_toArray, List.set_cons_zero, List.set_cons_succ, e15]
  generalize vs 9 = q9 at *
  generalize vs 10 = q10 at *
  generalize vs 11 = q11 at *
  generalize vs 12 = q12 at *
  generalize vs 13 = q13 at *
  generalize vs 14 = q14 at *
  have XA1 := Lib.hid (XA.out.ab hb)
  have XB1 := Lib.hid (XB.out.ab hb)
  have B1_ := Lib.hid (below_tr B0.out hb B0.out.size)
  clear hR hF hb e15 XA XB B0
  go_wp2_with fail
  refine wp_wide3 [⟨16, IsR (.agg #[.int .u32 (l.ten : Int), .int .u8 (l.k : Int), .int .u8 (l.lv : Int), .int .u32 (l.pg : Int), .int .u64 (l.cm : Int), .int .u16 (l.gn : Int)]), [], false⟩, ⟨17, OwR W1.heap.size (nonceL l), [0], false⟩, ⟨18, IsR (.string (strOf (nonceL l))), [1], false⟩, ⟨19, IsR (.agg #[.int .u32 (m.ten : Int), .int .u8 (m.k : Int), .int .u8 (m.lv : Int), .int .u32 (m.pg : Int), .int .u64 (m.cm : Int), .int .u16 (m.gn : Int)]), [], false⟩, ⟨20, OwR W1.heap.size (nonceL m), [3], false⟩, ⟨21, IsR (.string (strOf (nonceL m))), [4], false⟩, ⟨22, IsR (.bool qn), [2, 5], false⟩] (by kernel_rfl) (by kernel_rfl) rfl rfl rfl ⟨?_, ?_, ?_, ?_, ?_, ?_, ?_, trivial⟩ ?_
  · refine ⟨rfl, IsR.mono _, fun a W hA hb hd => takes_plain rfl (yields_value _ ?_ rfl)⟩
    have h2 : a.tmps[2]?.getD undef = .pointer (some ⟨w.heap.size, 0, none⟩) := (eval_get a 2).trans ((hA.eval (by simp)).trans rfl)
    obtain ⟨x0, x1, x2, x3, x4, x5⟩ := (XA1.out.ab hb).cells
    go_simp
  · refine ⟨rfl, OwR.mono _ _, fun a W hA hb hd => takes_plain rfl ?_⟩
    have h16 : a.tmps[16]?.getD undef = .agg #[.int .u32 (l.ten : Int), .int .u8 (l.k : Int), .int .u8 (l.lv : Int), .int .u32 (l.pg : Int), .int .u64 (l.cm : Int), .int .u16 (l.gn : Int)] := (eval_get a 16).trans (hd 0 (by simp) _ rfl)
    refine yields_call 40 #[.agg #[.int .u32 (l.ten : Int), .int .u8 (l.k : Int), .int .u8 (l.lv : Int), .int .u32 (l.pg : Int), .int .u64 (l.cm : Int), .int .u16 (l.gn : Int)]] (by go_simp) ((nonceOf_any l W HA.out).mono ?_)
    rintro e W' ⟨v, rfl, hv, hb'⟩
    exact ⟨v, rfl, hv.lower hb.size, hb'⟩
  · refine ⟨rfl, IsR.mono _, fun a W hA hb hd => ?_⟩
    have oa : OwB W W1.heap.size (a.eval (.tmp 17)) (nonceL l) := hd 1 (by simp) _ rfl
    have ea := eval_get a 17
    generalize a.eval (.tmp 17) = va at *
    obtain ⟨Aa, ca, rfl, -, -⟩ := oa.shape
    have ia := oa.isB rfl
    have hst : (convert 22 9 (.slice Aa (nonceL l).length ca)).run Try.prog W = .ok (.string (strOf (nonceL l))) W := run_str ia _ _ _ Try.underlying22 Try.underlying5 Try.underlying9
    refine takes_plain rfl (yields_value (.string (strOf (nonceL l))) ?_ rfl)
    go_simp
  · refine ⟨rfl, IsR.mono _, fun a W hA hb hd => takes_plain rfl (yields_value _ ?_ rfl)⟩
    have h3 : a.tmps[3]?.getD undef = .pointer (some ⟨w.heap.size + 1, 0, none⟩) := (eval_get a 3).trans ((hA.eval (by simp)).trans rfl)
    obtain ⟨x0, x1, x2, x3, x4, x5⟩ := (XB1.out.ab hb).cells
    go_simp
  · refine ⟨rfl, OwR.mono _ _, fun a W hA hb hd => takes_plain rfl ?_⟩
    have h19 : a.tmps[19]?.getD undef = .agg #[.int .u32 (m.ten : Int), .int .u8 (m.k : Int), .int .u8 (m.lv : Int), .int .u32 (m.pg : Int), .int .u64 (m.cm : Int), .int .u16 (m.gn : Int)] := (eval_get a 19).trans (hd 3 (by simp) _ rfl)
    refine yields_call 40 #[.agg #[.int .u32 (m.ten : Int), .int .u8 (m.k : Int), .int .u8 (m.lv : Int), .int .u32 (m.pg : Int), .int .u64 (m.cm : Int), .int .u16 (m.gn : Int)]] (by go_simp) ((nonceOf_any m W HB.out).mono ?_)
    rintro e W' ⟨v, rfl, hv, hb'⟩
    exact ⟨v, rfl, hv.lower hb.size, hb'⟩
  · refine ⟨rfl, IsR.mono _, fun a W hA hb hd => ?_⟩
    have oa : OwB W W1.heap.size (a.eval (.tmp 20)) (nonceL m) := hd 4 (by simp) _ rfl
    have ea := eval_get a 20
    generalize a.eval (.tmp 20) = va at *
    obtain ⟨Aa, ca, rfl, -, -⟩ := oa.shape
    have ia := oa.isB rfl
    have hst : (convert 22 9 (.slice Aa (nonceL m).length ca)).run Try.prog W = .ok (.string (strOf (nonceL m))) W := run_str ia _ _ _ Try.underlying22 Try.underlying5 Try.underlying9
    refine takes_plain rfl (yields_value (.string (strOf (nonceL m))) ?_ rfl)
    go_simp
  · refine ⟨rfl, IsR.mono _, fun a W hA hb hd => takes_plain rfl (yields_value _ ?_ rfl)⟩
    have h18 : a.tmps[18]?.getD undef = .string (strOf (nonceL l)) := (eval_get a 18).trans (hd 2 (by simp) _ rfl)
    have h21 : a.tmps[21]?.getD undef = .string (strOf (nonceL m)) := (eval_get a 21).trans (hd 5 (by simp) _ rfl)
    have hq := QN.out
    go_simp
  intro vs W2 hR hF hb
  have e22 : vs 22 = .bool qn := hR 6 _ rfl
  simp only [List.map_cons, List.map_nil, List.foldl_cons, List.foldl_nil, List.length_cons, List.length_nil, List.drop_succ_cons, List.drop_zero, Act.put, List.setIfInBounds_toArray, List.set_cons_zero, List.set_cons_succ, e22]
  generalize vs 16 = q16 at *
  generalize vs 17 = q17 at *
  generalize vs 18 = q18 at *
  generalize vs 19 = q19 at *
  generalize vs 20 = q20 at *
  generalize vs 21 = q21 at *
  have XA2 := Lib.hid (XA1.out.ab hb)
  have XB2 := Lib.hid (XB1.out.ab hb)
  have B2_ := Lib.hid (below_tr B1_.out hb B1_.out.size)
  clear hR hF hb e22 XA1 XB1 B1_
  go_wp2_with fail
  refine wp_wide3 [⟨23, IsR (.agg #[.int .u32 (l.ten : Int), .int .u8 (l.k : Int), .int .u8 (l.lv : Int), .int .u32 (l.pg : Int), .int .u64 (l.cm : Int), .int .u16 (l.gn : Int)]), [], false⟩, ⟨24, OwR W2.heap.size (aadL l), [0], false⟩, ⟨25, IsR (.string (strOf (aadL l))), [1], false⟩, ⟨26, IsR (.agg #[.int .u32 (m.ten : Int), .int .u8 (m.k : Int), .int .u8 (m.lv : Int), .int .u32 (m.pg : Int), .int .u64 (m.cm : Int), .int .u16 (m.gn : Int)]), [], false⟩, ⟨27, OwR W2.heap.size (aadL m), [3], false⟩, ⟨28, IsR (.string (strOf (aadL m))), [4], false⟩, ⟨29, IsR (.bool qa), [2, 5], false⟩] (by kernel_rfl) (by kernel_rfl) rfl rfl rfl ⟨?_, ?_, ?_, ?_, ?_, ?_, ?_, trivial⟩ ?_
  · refine ⟨rfl, IsR.mono _, fun a W hA hb hd => takes_plain rfl (yields_value _ ?_ rfl)⟩
    have h2 : a.tmps[2]?.getD undef = .pointer (some ⟨w.heap.size, 0, none⟩) := (eval_get a 2).trans ((hA.eval (by simp)).trans rfl)
    obtain ⟨x0, x1, x2, x3, x4, x5⟩ := (XA2.out.ab hb).cells
    go_simp
  · refine ⟨rfl, OwR.mono _ _, fun a W hA hb hd => takes_plain rfl ?_⟩
    have h23 : a.tmps[23]?.getD undef = .agg #[.int .u32 (l.ten : Int), .int .u8 (l.k : Int), .int .u8 (l.lv : Int), .int .u32 (l.pg : Int), .int .u64 (l.cm : Int), .int .u16 (l.gn : Int)] := (eval_get a 23).trans (hd 0 (by simp) _ rfl)
    refine yields_call 42 #[.agg #[.int .u32 (l.ten : Int), .int .u8 (l.k : Int), .int .u8 (l.lv : Int), .int .u32 (l.pg : Int), .int .u64 (l.cm : Int), .int .u16 (l.gn : Int)]] (by go_simp) ((aadOf_any l W HA.out).mono ?_)
    rintro e W' ⟨v, rfl, hv, hb'⟩
    exact ⟨v, rfl, hv.lower hb.size, hb'⟩
  · refine ⟨rfl, IsR.mono _, fun a W hA hb hd => ?_⟩
    have oa : OwB W W2.heap.size (a.eval (.tmp 24)) (aadL l) := hd 1 (by simp) _ rfl
    have ea := eval_get a 24
    generalize a.eval (.tmp 24) = va at *
    obtain ⟨Aa, ca, rfl, -, -⟩ := oa.shape
    have ia := oa.isB rfl
    have hst : (convert 22 9 (.slice Aa (aadL l).length ca)).run Try.prog W = .ok (.string (strOf (aadL l))) W := run_str ia _ _ _ Try.underlying22 Try.underlying5 Try.underlying9
    refine takes_plain rfl (yields_value (.string (strOf (aadL l))) ?_ rfl)
    go_simp
  · refine ⟨rfl, IsR.mono _, fun a W hA hb hd => takes_plain rfl (yields_value _ ?_ rfl)⟩
    have h3 : a.tmps[3]?.getD undef = .pointer (some ⟨w.heap.size + 1, 0, none⟩) := (eval_get a 3).trans ((hA.eval (by simp)).trans rfl)
    obtain ⟨x0, x1, x2, x3, x4, x5⟩ := (XB2.out.ab hb).cells
    go_simp
  · refine ⟨rfl, OwR.mono _ _, fun a W hA hb hd => takes_plain rfl ?_⟩
    have h26 : a.tmps[26]?.getD undef = .agg #[.int .u32 (m.ten : Int), .int .u8 (m.k : Int), .int .u8 (m.lv : Int), .int .u32 (m.pg : Int), .int .u64 (m.cm : Int), .int .u16 (m.gn : Int)] := (eval_get a 26).trans (hd 3 (by simp) _ rfl)
    refine yields_call 42 #[.agg #[.int .u32 (m.ten : Int), .int .u8 (m.k : Int), .int .u8 (m.lv : Int), .int .u32 (m.pg : Int), .int .u64 (m.cm : Int), .int .u16 (m.gn : Int)]] (by go_simp) ((aadOf_any m W HB.out).mono ?_)
    rintro e W' ⟨v, rfl, hv, hb'⟩
    exact ⟨v, rfl, hv.lower hb.size, hb'⟩
  · refine ⟨rfl, IsR.mono _, fun a W hA hb hd => ?_⟩
    have oa : OwB W W2.heap.size (a.eval (.tmp 27)) (aadL m) := hd 4 (by simp) _ rfl
    have ea := eval_get a 27
    generalize a.eval (.tmp 27) = va at *
    obtain ⟨Aa, ca, rfl, -, -⟩ := oa.shape
    have ia := oa.isB rfl
    have hst : (convert 22 9 (.slice Aa (aadL m).length ca)).run Try.prog W = .ok (.string (strOf (aadL m))) W := run_str ia _ _ _ Try.underlying22 Try.underlying5 Try.underlying9
    refine takes_plain rfl (yields_value (.string (strOf (aadL m))) ?_ rfl)
    go_simp
  · refine ⟨rfl, IsR.mono _, fun a W hA hb hd => takes_plain rfl (yields_value _ ?_ rfl)⟩
    have h25 : a.tmps[25]?.getD undef = .string (strOf (aadL l)) := (eval_get a 25).trans (hd 2 (by simp) _ rfl)
    have h28 : a.tmps[28]?.getD undef = .string (strOf (aadL m)) := (eval_get a 28).trans (hd 5 (by simp) _ rfl)
    have hq := QA.out
    go_simp
  intro vs W3 hR hF hb
  have e29 : vs 29 = .bool qa := hR 6 _ rfl
  simp only [List.map_cons, List.map_nil, List.foldl_cons, List.foldl_nil, List.length_cons, List.length_nil, List.drop_succ_cons, List.drop_zero, Act.put, List.setIfInBounds_toArray, List.set_cons_zero, List.set_cons_succ, e29]
  generalize vs 23 = q23 at *
  generalize vs 24 = q24 at *
  generalize vs 25 = q25 at *
  generalize vs 26 = q26 at *
  generalize vs 27 = q27 at *
  generalize vs 28 = q28 at *
  have XA3 := Lib.hid (XA2.out.ab hb)
  have XB3 := Lib.hid (XB2.out.ab hb)
  have B3_ := Lib.hid (below_tr B2_.out hb B2_.out.size)
  clear hR hF hb e29 XA2 XB2 B2_
  obtain ⟨x0, x1, x2, x3, x4, x5⟩ := XA3.out.cells
  obtain ⟨y0, y1, y2, y3, y4, y5⟩ := XB3.out.cells
  clear QH QN QA
  have hl1 := headL_len l
  have hl2 := nonceL_len l
  have hl3 := aadL_len l
  have HL1 := Lib.hid hl1
  have HL2 := Lib.hid hl2
  have HL3 := Lib.hid hl3
  clear hl1 hl2 hl3
  go_wp2_with fail
  refine (headOf_any l W3 HA.out).mono ?_
  rintro e w4 ⟨v4, rfl, hv4, hb4⟩
  obtain ⟨A4, c4, rfl, -, -⟩ := hv4.shape
  rw [HL1.out]
  have XA4 := Lib.hid (XA3.out.ab hb4)
  have XB4 := Lib.hid (XB3.out.ab hb4)
  have B4_ := Lib.hid (below_tr B3_.out hb4 B3_.out.size)
  clear hv4 hb4 XA3 XB3 B3_ x0 x1 x2 x3 x4 x5 y0 y1 y2 y3 y4 y5
  obtain ⟨x0, x1, x2, x3, x4, x5⟩ := XA4.out.cells
  go_wp2_with fail
  refine (nonceOf_any l w4 HA.out).mono ?_
  rintro e w5 ⟨v5, rfl, hv5, hb5⟩
  obtain ⟨A5, c5, rfl, -, -⟩ := hv5.shape
  rw [HL2.out]
  have XA5 := Lib.hid (XA4.out.ab hb5)
  have XB5 := Lib.hid (XB4.out.ab hb5)
  have B5_ := Lib.hid (below_tr B4_.out hb5 B4_.out.size)
  clear hv5 hb5 XA4 XB4 B4_ x0 x1 x2 x3 x4 x5
  obtain ⟨x0, x1, x2, x3, x4, x5⟩ := XA5.out.cells
  go_wp2_with fail
  refine (aadOf_any l w5 HA.out).mono ?_
  rintro e w6 ⟨v6, rfl, hv6, hb6⟩
  obtain ⟨A6, c6, rfl, -, -⟩ := hv6.shape
  rw [HL3.out]
  have XA6 := Lib.hid (XA5.out.ab hb6)
  have XB6 := Lib.hid (XB5.out.ab hb6)
  have B7 := Lib.hid (below_tr B5_.out hb6 B5_.out.size)
  clear hv6 hb6 XA5 XB5 B5_ x0 x1 x2 x3 x4 x5
  obtain ⟨x0, x1, x2, x3, x4, x5⟩ := XA6.out.cells
  obtain ⟨y0, y1, y2, y3, y4, y5⟩ := XB6.out.cells
  have hnon := HNON.out
  have hq := fun W => HEQ.out W
  have hpg := HPG.out
  have hcm := HCM.out
  clear XA6 XB6 HNON HEQ HPG HCM HL1 HL2 HL3 HA HB
  cases qp <;> cases qc
  all_goals
    simp only [Bool.and_true, Bool.and_false] at hnon
    subst hnon
    cases qh <;> cases qa
  all_goals
    simp only [Bool.and_true, Bool.and_false] at hq
    go_wp2_with fail
    refine (known10_any _).mono ?_
    rintro e w9 ⟨rfl, b9⟩
    have B9 := Lib.hid (below_tr B7.out b9 B7.out.size)
    clear b9
    go_wp2_with fail
    go_ret
    exact ⟨rfl, B9.out⟩
set_option maxRecDepth 100000 in
theorem apart_walk (v u : Value) (w : World) (hv : ∃ base, Value.okWide Try.prog w .any base 54 v) {H : Type} {enc : TypeId × Value → H} {d : DataW H} {p : List MemPlace} (_ : DataW.Trod enc Try.prog w 0 (fun _ => true) true 54 v d p) (_ : ∀ x ∈ p, x.block < w.heap.size)
    (hu : ∃ base, Value.okWide Try.prog w .any base 54 u) {d' : DataW H} {p' : List MemPlace} (_ : DataW.Trod enc Try.prog w 0 (fun _ => true) true 54 u d' p') (_ : ∀ x ∈ p', x.block < w.heap.size) :
    Calls Try.prog 14 #[v, u] w fun e w' => e = .returned (.bool true) ∧ Below w.heap.size w w' := by
  obtain ⟨base, hv⟩ := hv
  obtain ⟨a, rfl, ha⟩ := open_label hv
  obtain ⟨base', hu⟩ := hu
  obtain ⟨b, rfl, hb⟩ := open_label hu
  exact apart_any a b w ha hb
end Go.Proofs.Ytpofndciepoooaa
