/-
  SealBack: the walk.
  SealApart: the walk.
-/
import Derived.Test.YtmeakfocppooiaaSeG
namespace Go.Proofs.Ytmeakfocppooiaa
open Go.RowKit
set_option linter.unusedVariables false

set_option maxRecDepth 100000 in
set_option maxHeartbeats 4000000 in
theorem eq_lab (a b : Lb) (W : World) : (Op.equalIn 10000 35 (.agg #[.int .u32 (a.ten : Int), .int .u8 (a.k : Int), .int .u8 (a.lv : Int), .int .u32 (a.pg : Int), .int .u64 (a.cm : Int), .int .u16 (a.gn : Int)]) (.agg #[.int .u32 (b.ten : Int), .int .u8 (b.k : Int), .int .u8 (b.lv : Int), .int .u32 (b.pg : Int), .int .u64 (b.cm : Int), .int .u16 (b.gn : Int)])).run Try.prog W = .ok (decide (a = b)) W := by
  obtain ⟨a1, a2, a3, a4, a5, a6⟩ := a
  obtain ⟨b1, b2, b3, b4, b5, b6⟩ := b
  have hd : decide ((⟨a1, a2, a3, a4, a5, a6⟩ : Lb) = ⟨b1, b2, b3, b4, b5, b6⟩) = (decide (a1 = b1) && decide (a2 = b2) && decide (a3 = b3) && decide (a4 = b4) && decide (a5 = b5) && decide (a6 = b6)) := by
    rw [← Bool.decide_and, ← Bool.decide_and, ← Bool.decide_and, ← Bool.decide_and, ← Bool.decide_and, decide_eq_decide]
    simp [and_assoc]
  rw [hd]
  go_simp
  by_cases h1 : a1 = b1
  · by_cases h2 : a2 = b2
    · by_cases h3 : a3 = b3
      · by_cases h4 : a4 = b4
        · by_cases h5 : a5 = b5
          · by_cases h6 : a6 = b6
            · simp [h1, h2, h3, h4, h5, h6]
            · simp [h1, h2, h3, h4, h5, h6]
              omega
          · simp [h1, h2, h3, h4, h5]
            omega
        · simp [h1, h2, h3, h4]
          omega
      · simp [h1, h2, h3]
        omega
    · simp [h1, h2]
      omega
  · simp [h1]
    omega
theorem digB_inj {a b n : Nat} (ha : a < 256 ^ n) (hb : b < 256 ^ n) (h : digB a n = digB b n) : a = b := by
  have := congrArg numB h
  rwa [numB_digB a n ha, numB_digB b n hb] at this
theorem headL_inj {a b : Lb} (ha : a.Ok) (hb : b.Ok) (h : headL a = headL b) : a.k = b.k ∧ a.lv = b.lv ∧ a.gn = b.gn ∧ a.cm = b.cm := by
  unfold headL headN at h
  simp only [flatN, List.append_nil] at h
  have h1 := List.append_cancel_left h
  obtain ⟨e1, h2⟩ := List.append_inj h1 (by rw [digB_len, digB_len])
  obtain ⟨e2, h3⟩ := List.append_inj h2 (by rw [digB_len, digB_len])
  obtain ⟨e3, e4⟩ := List.append_inj h3 (by rw [digB_len, digB_len])
  have a1 := ha.k; have a2 := ha.lv; have a3 := ha.gn; have a4 := ha.cm
  have b1 := hb.k; have b2 := hb.lv; have b3 := hb.gn; have b4 := hb.cm
  exact ⟨digB_inj a1 b1 e1, digB_inj a2 b2 e2, digB_inj a3 b3 e3, digB_inj a4 b4 e4⟩
theorem headL_same {a b : Lb} (h1 : a.k = b.k) (h2 : a.lv = b.lv) (h3 : a.gn = b.gn) (h4 : a.cm = b.cm) : headL a = headL b := by
  unfold headL headN
  rw [h1, h2, h3, h4]
theorem openS_err {key nonce aad s : List Nat} (hG : GOk key nonce) (ha : aad.length ≤ 65536) (hs : 16 ≤ s.length) (hs2 : s.length ≤ 65552) : (openS key nonce aad s).2 = 60 ∨ (openS key nonce aad s).2 = 0 := by
  unfold openS
  rw [if_pos hG, if_neg (by omega), if_neg (by omega)]
  split
  · exact .inr rfl
  · exact .inl rfl
theorem told_seal {l : Lb} (hl : l.Ok) (h1 : 1 ≤ l.k) (h4 : l.k ≤ 4) {X : List Nat} (hX : X.length = 240) : toldP (headL l ++ X) = ⟨l.k, l.lv, l.gn, l.cm, 0⟩ := by
  have a1 := hl.k; have a2 := hl.lv; have a3 := hl.gn; have a4 := hl.cm
  have e : headL l ++ X = magL ++ ([l.k] ++ ([l.lv] ++ (digB l.gn 2 ++ (digB l.cm 8 ++ X)))) := by
    unfold headL headN
    simp only [flatN, digB_one a1, digB_one a2, List.append_nil, List.append_assoc]
    rfl
  have hlen : (headL l ++ X).length = 256 := by rw [List.length_append, headL_len, hX]
  have k4 : at' (headL l ++ X) 4 = l.k := by rw [e]; rfl
  have k5 : at' (headL l ++ X) 5 = l.lv := by rw [e]; rfl
  have t4 : (headL l ++ X).take 4 = magL := by rw [e]; rfl
  have d6 : (headL l ++ X).drop 6 = digB l.gn 2 ++ (digB l.cm 8 ++ X) := by rw [e]; rfl
  have d8 : (headL l ++ X).drop 8 = digB l.cm 8 ++ X := by
    rw [show (8 : Nat) = 6 + 2 from rfl, ← List.drop_drop, d6, List.drop_append_of_le_length (by rw [digB_len]; decide), List.drop_of_length_le (by rw [digB_len]; decide), List.nil_append]
  unfold toldP
  rw [if_pos hlen, if_pos ⟨t4, by rw [k4]; exact ⟨h1, h4⟩⟩, k4, k5, d6, d8, List.take_append_of_le_length (by rw [digB_len]; decide), List.take_of_length_le (by rw [digB_len]; decide), List.take_append_of_le_length (by rw [digB_len]; decide), List.take_of_length_le (by rw [digB_len]; decide), numB_digB _ 2 a3, numB_digB _ 8 a4]
/-- what comes of the other label -/
theorem other_cases {key text : List Nat} {l m : Lb} (hl : l.Ok) (hm : m.Ok) (hS : SOk key l) (ht : text.length = 224) :
    (m = l ∧ (openP key m (headL l ++ sealA key (nonceL l) (aadL l) text)).2 = 0) ∨
    (m ≠ l ∧ ¬ (1 ≤ m.k ∧ m.k ≤ 4) ∧ openP key m (headL l ++ sealA key (nonceL l) (aadL l) text) = ([], 2)) ∨
    (m ≠ l ∧ (1 ≤ m.k ∧ m.k ≤ 4) ∧ ¬ (m.k = l.k ∧ m.lv = l.lv ∧ m.gn = l.gn ∧ m.cm = l.cm) ∧ openP key m (headL l ++ sealA key (nonceL l) (aadL l) text) = ([], 100)) ∨
    (m ≠ l ∧ (1 ≤ m.k ∧ m.k ≤ 4) ∧ (m.k = l.k ∧ m.lv = l.lv ∧ m.gn = l.gn ∧ m.cm = l.cm) ∧ ((openP key m (headL l ++ sealA key (nonceL l) (aadL l) text)).2 = 60 ∨ (openP key m (headL l ++ sealA key (nonceL l) (aadL l) text)).2 = 0)) := by
  by_cases hml : m = l
  · left
    subst hml
    exact ⟨rfl, by rw [openP_seal hS ht]⟩
  · right
    by_cases hk : 1 ≤ m.k ∧ m.k ≤ 4
    · right
      by_cases hh : m.k = l.k ∧ m.lv = l.lv ∧ m.gn = l.gn ∧ m.cm = l.cm
      · right
        refine ⟨hml, hk, hh, ?_⟩
        have he : headL l = headL m := headL_same hh.1.symm hh.2.1.symm hh.2.2.1.symm hh.2.2.2.symm
        unfold openP
        rw [if_pos ⟨⟨hS.1, hk⟩, lsealA_len key l ht⟩, lseal_take, if_pos he, lseal_drop]
        exact openS_err ⟨hS.1, nonceL_len m⟩ (by rw [aadL_len]; decide) (by rw [sealA_len]; omega) (by rw [sealA_len]; omega)
      · left
        exact ⟨hml, hk, hh, openP_other ⟨hS.1, hk⟩ ht (fun e => hh (by obtain ⟨a, b, c, d⟩ := headL_inj hl hm e; exact ⟨a.symm, b.symm, c.symm, d.symm⟩))⟩
    · left
      refine ⟨hml, hk, ?_⟩
      unfold openP
      rw [if_neg (fun h => hk h.1.2)]
-- WALK
end Go.Proofs.Ytmeakfocppooiaa

namespace Go.Proofs.Ytmeakfocppooiaa
open Go.RowKit
set_option linter.unusedVariables false

theorem headL_byt (l : Lb) (h : l.Ok) : Byt (headL l) := by
  have : ∀ (ps : List (Nat × Nat)), Byt (flatN ps) := fun ps => by
    induction ps with
    | nil => exact fun x hx => by cases hx
    | cons p ps ih => exact byt_app (digB_byt _ _) ih
  exact byt_app (fun x hx => by simp at hx; omega) (this _)
theorem flatN_byt : ∀ (ps : List (Nat × Nat)), Byt (flatN ps)
  | [] => fun x hx => by cases hx
  | p :: ps => byt_app (digB_byt _ _) (flatN_byt ps)
theorem nonceL_inj {a b : Lb} (ha : a.Ok) (hb : b.Ok) (h : nonceL a = nonceL b) : a.pg = b.pg ∧ a.cm = b.cm := by
  unfold nonceL nonceN at h
  simp only [flatN, List.append_nil] at h
  obtain ⟨e1, e2⟩ := List.append_inj h (by rw [digB_len, digB_len])
  have a1 := ha.pg; have a4 := ha.cm; have b1 := hb.pg; have b4 := hb.cm
  exact ⟨digB_inj a1 b1 e1, digB_inj a4 b4 e2⟩
theorem aadL_inj {a b : Lb} (ha : a.Ok) (hb : b.Ok) (h : aadL a = aadL b) : a.ten = b.ten := by
  unfold aadL aadN at h
  simp only [flatN, List.append_nil] at h
  obtain ⟨e1, _⟩ := List.append_inj h (by rw [digB_len, digB_len])
  have a1 := ha.ten; have b1 := hb.ten
  exact digB_inj a1 b1 e1
theorem lb_all {a b : Lb} (ha : a.Ok) (hb : b.Ok) : decide (a = b) = (decide (headL a = headL b) && decide (nonceL a = nonceL b) && decide (aadL a = aadL b)) := by
  by_cases h : a = b
  · subst h; simp
  · rw [decide_eq_false h]
    by_cases h1 : headL a = headL b
    · by_cases h2 : nonceL a = nonceL b
      · by_cases h3 : aadL a = aadL b
        · exfalso
          obtain ⟨p1, p2, p3, p4⟩ := headL_inj ha hb h1
          obtain ⟨p5, _⟩ := nonceL_inj ha hb h2
          have p6 := aadL_inj ha hb h3
          obtain ⟨a1, a2, a3, a4, a5, a6⟩ := a
          obtain ⟨b1, b2, b3, b4, b5, b6⟩ := b
          simp only at p1 p2 p3 p4 p5 p6
          exact h (by rw [p1, p2, p3, p4, p5, p6])
        · simp [h3]
      · simp [h2]
    · simp [h1]
theorem nonce_two {a b : Lb} (ha : a.Ok) (hb : b.Ok) : decide (nonceL a = nonceL b) = (decide (a.pg = b.pg) && decide (a.cm = b.cm)) := by
  by_cases h : nonceL a = nonceL b
  · obtain ⟨h1, h2⟩ := nonceL_inj ha hb h
    rw [decide_eq_true h, decide_eq_true h1, decide_eq_true h2]; rfl
  · rw [decide_eq_false h]
    by_cases h1 : a.pg = b.pg
    · by_cases h2 : a.cm = b.cm
      · exact absurd (by unfold nonceL nonceN; rw [h1, h2]) h
      · simp [h2]
    · simp [h1]
end Go.Proofs.Ytmeakfocppooiaa
