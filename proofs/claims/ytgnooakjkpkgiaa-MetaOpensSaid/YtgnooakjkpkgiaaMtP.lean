/-
  META PAGES: plain laws: there and back, just one form.
-/
import Derived.Test.YtgnooakjkpkgiaaMtF
namespace Go.Proofs.Ytgnooakjkpkgiaa
open Go.RowKit
set_option linter.unusedVariables false

theorem zeros_el (n i : Nat) (h : i < (zeros n).length) : (zeros n)[i] = 0 := List.getElem_replicate _
theorem nAt_mid (a r : List Nat) (x s k : Nat) (hk : a.length = k) (h : x < 256 ^ s) : nAt (a ++ (digB x s ++ r)) k s = x := by
  subst hk
  unfold nAt
  rw [List.drop_left, List.take_left' (digB_len x s), numB_digB x s h]
theorem mbytes_split (m : Mp) : mbytes m = digB m.cm 8 ++ (digB m.pg 4 ++ (digB m.rc 8 ++ (digB m.rg 2 ++ (digB m.lv 1 ++ (digB m.gn 2 ++ (digB m.tn 4 ++ zeros 195)))))) := by
  simp only [mbytes, fldM, flatN, List.append_nil, List.append_assoc]
theorem mpOf_mbytes {m : Mp} (h : m.Ok) : mpOf (mbytes m) = m := by
  have h1 := h.cm; have h2 := h.pg; have h3 := h.rc; have h4 := h.rg; have h5 := h.lv; have h6 := h.gn; have h7 := h.tn
  rw [mbytes_split]
  obtain ⟨cm, pg, rc, rg, lv, gn, tn⟩ := m
  simp only at h1 h2 h3 h4 h5 h6 h7 ⊢
  have f1 := nAt_mid [] (digB pg 4 ++ (digB rc 8 ++ (digB rg 2 ++ (digB lv 1 ++ (digB gn 2 ++ (digB tn 4 ++ zeros 195)))))) cm 8 0 rfl h1
  have f2 := nAt_mid (digB cm 8) (digB rc 8 ++ (digB rg 2 ++ (digB lv 1 ++ (digB gn 2 ++ (digB tn 4 ++ zeros 195))))) pg 4 8 (by simp [digB_len]) h2
  have f3 := nAt_mid (digB cm 8 ++ digB pg 4) (digB rg 2 ++ (digB lv 1 ++ (digB gn 2 ++ (digB tn 4 ++ zeros 195)))) rc 8 12 (by simp [digB_len]) h3
  have f4 := nAt_mid (digB cm 8 ++ digB pg 4 ++ digB rc 8) (digB lv 1 ++ (digB gn 2 ++ (digB tn 4 ++ zeros 195))) rg 2 20 (by simp [digB_len]) h4
  have f5 := nAt_mid (digB cm 8 ++ digB pg 4 ++ digB rc 8 ++ digB rg 2) (digB gn 2 ++ (digB tn 4 ++ zeros 195)) lv 1 22 (by simp [digB_len]) h5
  have f6 := nAt_mid (digB cm 8 ++ digB pg 4 ++ digB rc 8 ++ digB rg 2 ++ digB lv 1) (digB tn 4 ++ zeros 195) gn 2 23 (by simp [digB_len]) h6
  have f7 := nAt_mid (digB cm 8 ++ digB pg 4 ++ digB rc 8 ++ digB rg 2 ++ digB lv 1 ++ digB gn 2) (zeros 195) tn 4 25 (by simp [digB_len]) h7
  simp only [List.nil_append, List.append_assoc] at f1 f2 f3 f4 f5 f6 f7
  unfold mpOf
  rw [f1, f2, f3, f4, f5, f6, f7]
theorem nz_none {l : List Nat} : ∀ (f k : Nat), (∀ i, k ≤ i → i < k + f → at' l i = 0) → nzFrom l f k = none
  | 0, k, _ => rfl
  | f + 1, k, h => by
    rw [nzFrom, if_pos (h k (Nat.le_refl _) (by omega))]
    exact nz_none f (k + 1) fun i h1 h2 => h i (by omega) (by omega)
theorem nz_all {l : List Nat} : ∀ (f k : Nat), nzFrom l f k = none → ∀ i, k ≤ i → i < k + f → at' l i = 0
  | 0, k, _, i, h1, h2 => by omega
  | f + 1, k, h, i, h1, h2 => by
    rw [nzFrom] at h
    by_cases hz : at' l k = 0
    · rw [if_pos hz] at h
      by_cases hi : i = k
      · rw [hi]; exact hz
      · exact nz_all f (k + 1) h i (by omega) (by omega)
    · rw [if_neg hz] at h
      cases h
theorem right_cm {m : Mp} (h : rightB m = true) : m.cm ≠ 0 := fun e => by
  unfold rightB at h
  rw [e] at h
  simp at h
theorem decP_mbytes {m : Mp} (h : m.Ok) (hr : rightB m = true) : decP (mbytes m) = ⟨m, 0, 0⟩ := by
  unfold decP
  have hz : nzFrom (mbytes m) 195 29 = none := nz_none 195 29 fun i h1 h2 => by
    rw [mbytes, at', List.getElem?_append_right (by rw [fldM_len]; omega), fldM_len, List.getElem?_eq_getElem (by rw [zeros_len]; omega), zeros_el]
    rfl
  rw [if_pos (mbytes_len m), mpOf_mbytes h, if_neg (right_cm hr), hr, cond_true, hz]
/-- what is made out of bytes may be -/
theorem mpOf_ok {b : List Nat} (hb : Byt b) (hl : b.length = 224) : (mpOf b).Ok :=
  ⟨nAt_lt hb hl 0 8 (by decide), nAt_lt hb hl 8 4 (by decide), nAt_lt hb hl 12 8 (by decide), nAt_lt hb hl 20 2 (by decide), nAt_lt hb hl 22 1 (by decide), nAt_lt hb hl 23 2 (by decide), nAt_lt hb hl 25 4 (by decide)⟩
theorem dig_nAt {b : List Nat} (hb : Byt b) (hl : b.length = 224) (k s : Nat) (h : k + s ≤ 224) : digB (nAt b k s) s = (b.drop k).take s := by
  have h1 : ((b.drop k).take s).length = s := by rw [List.length_take, List.length_drop]; omega
  have := digB_numB ((b.drop k).take s) (fun x hx => hb x (List.mem_of_mem_drop (List.mem_of_mem_take hx)))
  rw [h1] at this
  exact this
theorem decP_only {b : List Nat} (hb : Byt b) (he : (decP b).err = 0) : b.length = 224 ∧ (decP b).m = mpOf b ∧ rightB (mpOf b) = true ∧ mbytes (mpOf b) = b := by
  unfold decP at he ⊢
  by_cases hl : b.length = 224
  · rw [if_pos hl] at he ⊢
    by_cases h0 : (mpOf b).cm = 0
    · rw [if_pos h0] at he; cases he
    · rw [if_neg h0] at he ⊢
      cases hr : rightB (mpOf b)
      · rw [hr, cond_false] at he; cases he
      · rw [hr, cond_true] at he
        cases hn : nzFrom b 195 29 with
        | some i => rw [hn] at he; cases he
        | none =>
          refine ⟨hl, rfl, rfl, ?_⟩
          rw [mbytes_split]
          simp only [mpOf]
          rw [dig_nAt hb hl 0 8 (by decide), dig_nAt hb hl 8 4 (by decide), dig_nAt hb hl 12 8 (by decide), dig_nAt hb hl 20 2 (by decide), dig_nAt hb hl 22 1 (by decide), dig_nAt hb hl 23 2 (by decide), dig_nAt hb hl 25 4 (by decide)]
          have hz : zeros 195 = b.drop 29 := by
            apply List.ext_getElem
            · rw [zeros_len, List.length_drop]; omega
            · intro i h1 h2
              rw [zeros_len] at h1
              have := nz_all 195 29 hn (29 + i) (by omega) (by omega)
              rw [at', List.getElem?_eq_getElem (by omega)] at this
              rw [List.getElem_drop, zeros_el]
              simpa using this.symm
          rw [hz]
          have tk : ∀ (k s : Nat), (b.drop k).take s ++ b.drop (k + s) = b.drop k := fun k s => by
            rw [← List.drop_drop, List.take_append_drop]
          rw [tk 25 4, tk 23 2, tk 22 1, tk 20 2, tk 12 8, tk 8 4]
          exact tk 0 8
  · rw [if_neg hl] at he; cases he
/-- opened as it was sealed -/
theorem mOpen_seal {l : RgL} {m : Mp} {k : List Nat} (hm : m.Ok) (hr : rightB m = true) (hk : getR (0, m.gn) l = some k) (hkk : KeyOk k) (s : Int) :
    mOpenP l s (mSealP l m).1 = if s = 0 ∨ s = 1 then (if ((m.cm % 2 : Nat) : Int) = s then ⟨m, 0⟩ else ⟨mp0, 100⟩) else ⟨mp0, 2⟩ := by
  unfold mSealP
  rw [hr, cond_true, hk]
  simp only
  rw [sealM hkk m]
  simp only
  have hX : (sealA k (nonceL (labM m)) (aadL (labM m)) (mbytes m)).length = 240 := by rw [sealA_len, mbytes_len]
  have hl : (headL (labM m) ++ sealA k (nonceL (labM m)) (aadL (labM m)) (mbytes m)).length = 256 := by rw [List.length_append, headL_len, hX]
  have ht : toldP (headL (labM m) ++ sealA k (nonceL (labM m)) (aadL (labM m)) (mbytes m)) = ⟨4, 0, m.gn, m.cm, 0⟩ := told_seal (labM_ok hm) (by simp [labM]) (by simp [labM]) hX
  unfold mOpenP
  rw [ht]
  by_cases hs : s = 0 ∨ s = 1
  · rw [if_pos ⟨hs, hl⟩, if_pos hs]
    by_cases he : ((m.cm % 2 : Nat) : Int) = s
    · rw [if_pos he, if_pos ⟨rfl, rfl, rfl, he⟩]
      unfold mOpenB
      simp only
      rw [hk]
      simp only
      have hlab : labT 0 ⟨4, 0, m.gn, m.cm, 0⟩ = labM m := rfl
      rw [hlab, openP_seal (sealM_ok hkk m) (mbytes_len m)]
      simp only [if_true]
      rw [decP_mbytes hm hr]
      simp
    · rw [if_neg he, if_neg (fun h => he h.2.2.2)]
  · rw [if_neg (fun h => hs h.1), if_neg hs]
theorem mOpen_any (B g mm : Nat) (sl : Int) (l : RgL) (A : Option Addr) (n c : Nat) (b : List Nat) (w : World) (hr : RgB w B g mm l) (hi : IsB w A n c b) :
    Calls Try.prog 60 #[.pointer (some ⟨g, 0, none⟩), .int .i64 sl, .slice A n c] w fun e w' => e = .returned (opnV (mOpenP l sl b)) ∧ Below w.heap.size w w' := by
  have hl := hi.len
  unfold mOpenP
  by_cases h : (sl = 0 ∨ sl = 1) ∧ b.length = 256
  · rw [if_pos h]
    obtain ⟨hs, h2⟩ := h
    obtain rfl : n = 256 := by omega
    obtain ⟨s, rfl, hs1⟩ : ∃ s : Nat, sl = (s : Int) ∧ s ≤ 1 := by
      rcases hs with rfl | rfl
      · exact ⟨0, rfl, by decide⟩
      · exact ⟨1, rfl, by decide⟩
    exact mOpen_ok B g mm s l A c b w hr hs1 hi
  · rw [if_neg h]
    exact mOpen_arg g sl A n c w (fun q => h ⟨q.1, by omega⟩)
end Go.Proofs.Ytgnooakjkpkgiaa
