/-
  PLAIN: deciphering undoes enciphering, and the other way round.
-/
import Derived.Test.YtgnooakjkpkgiaaAeL
namespace Go.Proofs.Ytgnooakjkpkgiaa
open Go.RowKit
set_option linter.unusedVariables false

/-! the product is linear in its second factor -/
theorem mulGo_next (f a b c : Nat) : mulGo (f + 1) a b c = mulGo f (dbl a) (b / 2) (if b % 2 = 1 then c ^^^ a else c) := by
  by_cases h : b = 0
  · subst h
    simp [mulGo, mulGo_zero]
  · simp [mulGo, h]
theorem xor_mod2 (x y : Nat) : (x ^^^ y) % 2 = (x % 2 + y % 2) % 2 := by
  have h1 : (x ^^^ y) % 2 = (x % 2) ^^^ (y % 2) := by
    have := Nat.xor_mod_two_pow (a := x) (b := y) (n := 1)
    simpa using this
  rw [h1]
  rcases Nat.mod_two_eq_zero_or_one x with h | h <;> rcases Nat.mod_two_eq_zero_or_one y with h' | h' <;> rw [h, h'] <;> rfl
theorem xor4b (c a d : Nat) : (c ^^^ a) ^^^ (d ^^^ a) = c ^^^ d := by
  rw [Nat.xor_assoc, Nat.xor_comm d a, ← Nat.xor_assoc a a d, Nat.xor_self, Nat.zero_xor]
theorem mulGo_lin : ∀ (f a x y c d : Nat), mulGo f a (x ^^^ y) (c ^^^ d) = mulGo f a x c ^^^ mulGo f a y d
  | 0, a, x, y, c, d => rfl
  | f + 1, a, x, y, c, d => by
    rw [mulGo_next, mulGo_next f a x, mulGo_next f a y]
    have h2 : (x ^^^ y) / 2 = (x / 2) ^^^ (y / 2) := by
      have := Nat.xor_div_two_pow (a := x) (b := y) (n := 1)
      simpa using this
    rw [h2, ← mulGo_lin f]
    congr 1
    have hm := xor_mod2 x y
    rcases Nat.mod_two_eq_zero_or_one x with h | h <;> rcases Nat.mod_two_eq_zero_or_one y with h' | h' <;> rw [h, h'] at hm <;> simp [h, h', hm]
    · rw [Nat.xor_assoc]
    · rw [Nat.xor_assoc, Nat.xor_comm d a, Nat.xor_assoc]
    · rw [xor4b]
theorem gmul_lin (a x y : Nat) : gmul a (x ^^^ y) = gmul a x ^^^ gmul a y := by
  have := mulGo_lin 8 a x y 0 0
  simpa [gmul] using this
/-- the two matrices undo each other -/
theorem mats : ∀ i, i < 4 → ∀ k, k < 4 → ∀ x, x < 256 →
    (gmul (at' unmixM (4 * i)) (gmul (at' mixM k) x) ^^^ gmul (at' unmixM (4 * i + 1)) (gmul (at' mixM (4 + k)) x) ^^^ gmul (at' unmixM (4 * i + 2)) (gmul (at' mixM (8 + k)) x) ^^^ gmul (at' unmixM (4 * i + 3)) (gmul (at' mixM (12 + k)) x) = if i = k then x else 0) ∧
    (gmul (at' mixM (4 * i)) (gmul (at' unmixM k) x) ^^^ gmul (at' mixM (4 * i + 1)) (gmul (at' unmixM (4 + k)) x) ^^^ gmul (at' mixM (4 * i + 2)) (gmul (at' unmixM (8 + k)) x) ^^^ gmul (at' mixM (4 * i + 3)) (gmul (at' unmixM (12 + k)) x) = if i = k then x else 0) := by decide +kernel
theorem at'_extb {a b : List Nat} (hl : a.length = b.length) (h : ∀ i, i < b.length → at' a i = at' b i) : a = b := by
  apply List.ext_getElem hl
  intro i h1 h2
  have := h i h2
  simpa [at', List.getElem?_eq_getElem h1, List.getElem?_eq_getElem h2] using this
theorem row_at (R c : List Nat) (i : Nat) (hi : i < 4) : at' (byRows R c) i = gmul (at' R (4 * i)) (at' c 0) ^^^ gmul (at' R (4 * i + 1)) (at' c 1) ^^^ gmul (at' R (4 * i + 2)) (at' c 2) ^^^ gmul (at' R (4 * i + 3)) (at' c 3) := by
  have h : ∀ j, j < 4 → (rowOf R i)[j]?.getD 0 = at' R (4 * i + j) := fun j hj => by
    simp [rowOf, at', List.getElem?_drop, hj]
  have e : at' (byRows R c) i = rowAcc (rowOf R i) c 4 := by simp [at', byRows, hi]
  rw [e]
  simp only [rowAcc, Nat.zero_xor]
  rw [h 0 (by omega), h 1 (by omega), h 2 (by omega), h 3 (by omega)]
  rfl
theorem xlc (a b c : Nat) : a ^^^ (b ^^^ c) = b ^^^ (a ^^^ c) := by rw [← Nat.xor_assoc, Nat.xor_comm a b, Nat.xor_assoc]
theorem perm16 (a0 a1 a2 a3 b0 b1 b2 b3 c0 c1 c2 c3 d0 d1 d2 d3 : Nat) : (a0 ^^^ a1 ^^^ a2 ^^^ a3) ^^^ (b0 ^^^ b1 ^^^ b2 ^^^ b3) ^^^ (c0 ^^^ c1 ^^^ c2 ^^^ c3) ^^^ (d0 ^^^ d1 ^^^ d2 ^^^ d3) = (a0 ^^^ b0 ^^^ c0 ^^^ d0) ^^^ (a1 ^^^ b1 ^^^ c1 ^^^ d1) ^^^ (a2 ^^^ b2 ^^^ c2 ^^^ d2) ^^^ (a3 ^^^ b3 ^^^ c3 ^^^ d3) := by
  simp only [Nat.xor_comm, xlc]
set_option maxHeartbeats 1000000 in
theorem back4 {U M c : List Nat} (hc : c.length = 4) (hb : Byt c) (h : ∀ i, i < 4 → ∀ k, k < 4 → ∀ x, x < 256 → gmul (at' U (4 * i)) (gmul (at' M k) x) ^^^ gmul (at' U (4 * i + 1)) (gmul (at' M (4 + k)) x) ^^^ gmul (at' U (4 * i + 2)) (gmul (at' M (8 + k)) x) ^^^ gmul (at' U (4 * i + 3)) (gmul (at' M (12 + k)) x) = if i = k then x else 0) : byRows U (byRows M c) = c := by
  refine at'_extb (by rw [byRows_len, hc]) fun i h2 => ?_
  have hi : i < 4 := by rw [hc] at h2; exact h2
  rw [row_at U _ i hi, row_at M c 0 (by omega), row_at M c 1 (by omega), row_at M c 2 (by omega), row_at M c 3 (by omega)]
  have k0 := h i hi 0 (by omega) (at' c 0) (hb.at' 0)
  have k1 := h i hi 1 (by omega) (at' c 1) (hb.at' 1)
  have k2 := h i hi 2 (by omega) (at' c 2) (hb.at' 2)
  have k3 := h i hi 3 (by omega) (at' c 3) (hb.at' 3)
  simp only [Nat.mul_zero, Nat.zero_add, Nat.mul_one, Nat.reduceMul, Nat.reduceAdd, Nat.add_zero] at k0 k1 k2 k3 ⊢
  simp only [gmul_lin]
  refine (perm16 _ _ _ _ _ _ _ _ _ _ _ _ _ _ _ _).trans ?_
  rw [k0, k1, k2, k3]
  clear k0 k1 k2 k3 h
  have h4 : i = 0 ∨ i = 1 ∨ i = 2 ∨ i = 3 := by omega
  rcases h4 with h4 | h4 | h4 | h4 <;> subst h4 <;> simp
theorem unmix_mix {c : List Nat} (hc : c.length = 4) (hb : Byt c) : unmix (mix c) = c := back4 hc hb fun i hi k hk x hx => (mats i hi k hk x hx).1
theorem mix_unmix {c : List Nat} (hc : c.length = 4) (hb : Byt c) : mix (unmix c) = c := back4 hc hb fun i hi k hk x hx => (mats i hi k hk x hx).2

/-! the steps undo each other -/
theorem at'_map (f : Nat → Nat) (i : Nat) (hi : i < 16) : at' ((List.range 16).map f) i = f i := by simp [at', hi]
theorem eq16_of {a b : List Nat} (ha : a.length = 16) (hb : b.length = 16) (h : ∀ i, i < 16 → at' a i = at' b i) : a = b := by
  apply List.ext_getElem (by rw [ha, hb])
  intro i h1 h2
  have := h i (by omega)
  simpa [at', List.getElem?_eq_getElem h1, List.getElem?_eq_getElem h2] using this
theorem add_add (s W : List Nat) (o : Nat) (hs : s.length = 16) : addK (addK s W o) W o = s := by
  refine eq16_of (addK_len _ _ _) hs fun i hi => ?_
  have e : ∀ t, at' (addK t W o) i = at' t i ^^^ at' W (o + i) := fun t => by unfold addK; rw [at'_map _ i hi]; rfl
  rw [e, e, Nat.xor_assoc, Nat.xor_self, Nat.xor_zero]
theorem each_each {T U : Nat → Nat} (s : List Nat) (hs : s.length = 16) (hb : Byt s) (h : ∀ x, x < 256 → U (T x) = x) : eachK U (eachK T s) = s := by
  refine eq16_of (eachK_len _ _) hs fun i hi => ?_
  have e : ∀ V t, at' (eachK V t) i = V (at' t i) := fun V t => by unfold eachK; rw [at'_map _ i hi]; rfl
  rw [e, e]
  exact h _ (hb.at' i)
theorem shift_shift {a b : Nat} (s : List Nat) (hs : s.length = 16) (h : ∀ i, i < 16 → 4 * ((4 * ((i / 4 + a * (i % 4)) % 4) + i % 4) / 4 + b * ((4 * ((i / 4 + a * (i % 4)) % 4) + i % 4) % 4)) % 4 = 4 * ((4 * ((i / 4 + a * (i % 4)) % 4) + i % 4) / 4 + b * ((4 * ((i / 4 + a * (i % 4)) % 4) + i % 4) % 4)) % 4) (h2 : ∀ i, i < 16 → 4 * (((4 * ((i / 4 + a * (i % 4)) % 4) + i % 4) / 4 + b * ((4 * ((i / 4 + a * (i % 4)) % 4) + i % 4) % 4)) % 4) + (4 * ((i / 4 + a * (i % 4)) % 4) + i % 4) % 4 = i) : shiftK a (shiftK b s) = s := by
  refine eq16_of (shiftK_len _ _) hs fun i hi => ?_
  have e : ∀ c t j, j < 16 → at' (shiftK c t) j = at' t (4 * ((j / 4 + c * (j % 4)) % 4) + j % 4) := fun c t j hj => by unfold shiftK; rw [at'_map _ j hj]; rfl
  rw [e _ _ _ hi, e _ _ _ (by omega), h2 i hi]
theorem shift31 (s : List Nat) (hs : s.length = 16) : shiftK 3 (shiftK 1 s) = s := shift_shift s hs (fun i hi => rfl) (by decide)
theorem shift13 (s : List Nat) (hs : s.length = 16) : shiftK 1 (shiftK 3 s) = s := shift_shift s hs (fun i hi => rfl) (by decide)
theorem rowOf_len (s : List Nat) (q : Nat) (hs : s.length = 16) (hq : q < 4) : (rowOf s q).length = 4 := by simp [rowOf, hs]; omega
theorem rowOf_at (s : List Nat) (q p : Nat) (hp : p < 4) : at' (rowOf s q) p = at' s (4 * q + p) := by simp [rowOf, at', List.getElem?_drop, hp]
theorem colK_at (H : List Nat → List Nat) (s : List Nat) (i : Nat) (hi : i < 16) : at' (colK H s) i = at' (H (rowOf s (i / 4))) (i % 4) := by unfold colK; rw [at'_map _ i hi]; rfl
theorem col_row_of (H : List Nat → List Nat) (s : List Nat) (q : Nat) (hq : q < 4) (hH : (H (rowOf s q)).length = 4) : rowOf (colK H s) q = H (rowOf s q) := by
  apply List.ext_getElem (by rw [rowOf_len _ _ (colK_len _ _) hq, hH])
  intro p h1 h2
  have hp : p < 4 := by rw [hH] at h2; exact h2
  have e1 : (rowOf (colK H s) q)[p] = at' (rowOf (colK H s) q) p := by simp [at', List.getElem?_eq_getElem h1]
  have e2 : (H (rowOf s q))[p] = at' (H (rowOf s q)) p := by simp [at', List.getElem?_eq_getElem h2]
  rw [e1, e2, rowOf_at _ _ _ hp, colK_at _ _ _ (by omega), show (4 * q + p) / 4 = q from by omega, show (4 * q + p) % 4 = p from by omega]
theorem col_col {G H : List Nat → List Nat} (s : List Nat) (hs : s.length = 16) (hb : Byt s) (hH : ∀ c, (H c).length = 4) (h : ∀ c, c.length = 4 → Byt c → G (H c) = c) : colK G (colK H s) = s := by
  refine eq16_of (colK_len _ _) hs fun i hi => ?_
  rw [colK_at _ _ _ hi, col_row_of H s (i / 4) (by omega) (hH _), h _ (rowOf_len s _ hs (by omega)) (rowOf_byt hb _), rowOf_at _ _ _ (by omega), show 4 * (i / 4) + i % 4 = i from by omega]
theorem unmixIf_mixIf (b : Bool) (s : List Nat) (hs : s.length = 16) (hb : Byt s) : unmixIf b (mixIf b s) = s := by
  cases b
  · rfl
  · exact col_col s hs hb mix_len fun c h1 h2 => unmix_mix h1 h2
theorem mixIf_unmixIf (b : Bool) (s : List Nat) (hs : s.length = 16) (hb : Byt s) : mixIf b (unmixIf b s) = s := by
  cases b
  · rfl
  · exact col_col s hs hb unmix_len fun c h1 h2 => mix_unmix h1 h2

theorem dec_enc_to {W : List Nat} (R : Nat) {x : List Nat} (hW : Byt W) (hx : Byt x) : ∀ k, k ≤ R → decTo W R (encK W R x) k = encTo W R x (R - k)
  | 0, _ => rfl
  | k + 1, hk => by
    have hs := encTo_byt (R := R) hW hx (R - (k + 1))
    have hl := encTo_len W R x (R - (k + 1))
    have e : encTo W R x (R - k) = rndE W R (R - k) (encTo W R x (R - (k + 1))) := by
      have : R - k = (R - (k + 1)) + 1 := by omega
      conv => lhs; rw [this]
      rw [encTo, ← this]
    rw [decTo, dec_enc_to R hW hx k (by omega), e]
    generalize encTo W R x (R - (k + 1)) = s at *
    unfold rndD rndE
    have h1b := eachK_byt (T := sbox) hs sbox_lt
    have h1l := eachK_len sbox s
    rw [add_add _ _ _ (mixIf_len _ _ (shiftK_len _ _)), unmixIf_mixIf _ _ (shiftK_len _ _) (shiftK_byt h1b), shift31 _ h1l, each_each s hl hs sinv_sbox]
theorem dec_enc {W : List Nat} (R : Nat) {x : List Nat} (hW : Byt W) (hx : Byt x) (lx : x.length = 16) : decK W R (encK W R x) = x := by
  unfold decK
  rw [dec_enc_to R hW hx R (Nat.le_refl _), Nat.sub_self]
  exact add_add x W 0 lx
theorem enc_dec_to {W : List Nat} (R : Nat) {y : List Nat} (hW : Byt W) (hy : Byt y) (ly : y.length = 16) : ∀ j, j ≤ R → encTo W R (decK W R y) j = decTo W R y (R - j)
  | 0, _ => by
    show addK (addK (decTo W R y R) W 0) W 0 = _
    rw [add_add _ _ _ (decTo_len W R y ly R), Nat.sub_zero]
  | j + 1, hj => by
    have e : decTo W R y (R - j) = rndD W R (j + 1) (decTo W R y (R - (j + 1))) := by
      have : R - j = (R - (j + 1)) + 1 := by omega
      conv => lhs; rw [this]
      rw [decTo, show R - (R - (j + 1)) = j + 1 from by omega]
    rw [encTo, enc_dec_to R hW hy ly j (by omega), e]
    have hs := decTo_byt (R := R) hW hy (R - (j + 1))
    have hl := decTo_len W R y ly (R - (j + 1))
    generalize decTo W R y (R - (j + 1)) = s at *
    unfold rndE rndD
    have hal := addK_len s W (16 * (j + 1))
    have hab := addK_byt hs hW (16 * (j + 1))
    have hul := unmixIf_len (decide (j + 1 < R)) _ hal
    have hub := unmixIf_byt (b := decide (j + 1 < R)) hab
    rw [each_each _ (shiftK_len _ _) (shiftK_byt hub) sbox_sinv, shift13 _ hul, mixIf_unmixIf _ _ hal hab, add_add _ _ _ hl]
theorem enc_dec {W : List Nat} (R : Nat) {y : List Nat} (hW : Byt W) (hy : Byt y) (ly : y.length = 16) : encK W R (decK W R y) = y := by
  have := enc_dec_to R hW hy ly R (Nat.le_refl _)
  rw [Nat.sub_self] at this
  exact this
theorem enc_inj {W : List Nat} (R : Nat) {x y : List Nat} (hW : Byt W) (hx : Byt x) (lx : x.length = 16) (hy : Byt y) (ly : y.length = 16) : encK W R x = encK W R y ↔ x = y :=
  ⟨fun h => by rw [← dec_enc R hW hx lx, h, dec_enc R hW hy ly], fun h => by rw [h]⟩
end Go.Proofs.Ytgnooakjkpkgiaa
