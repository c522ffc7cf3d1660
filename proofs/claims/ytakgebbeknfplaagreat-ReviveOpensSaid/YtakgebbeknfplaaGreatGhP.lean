/-
  PLAIN: GF(2^128) as numbers, the highest bit first; the reference's long product and its rest; sums over texts (P4.1, P4.2).
-/
import Derived.Test.YtakgebbeknfplaaGreatCtC
namespace Go.Proofs.YtakgebbeknfplaaGreat
open Go.RowKit
set_option linter.unusedVariables false

/-! GF(2^128), the highest bit first -/
def gE : Nat := 0xe1 <<< 120
def mulX (y : Nat) : Nat := (y >>> 1) ^^^ (if y % 2 = 1 then gE else 0)
def pw : Nat → Nat → Nat
  | 0, y => y
  | i + 1, y => mulX (pw i y)
def xs : Nat → (Nat → Nat) → Nat
  | 0, _ => 0
  | n + 1, f => xs n f ^^^ f n
def sel (b : Bool) (x : Nat) : Nat := if b then x else 0
def bitX (x i : Nat) : Bool := x.testBit (127 - i)
/-- the product -/
def hmul (x y : Nat) : Nat := xs 128 fun i => sel (bitX x i) (pw i y)

theorem xor4 (a b c d : Nat) : (a ^^^ b) ^^^ (c ^^^ d) = (a ^^^ c) ^^^ (b ^^^ d) := by
  rw [Nat.xor_assoc, Nat.xor_assoc, ← Nat.xor_assoc b, ← Nat.xor_assoc c, Nat.xor_comm b c]
theorem xor_cancel (a b : Nat) : (a ^^^ b) ^^^ b = a := by rw [Nat.xor_assoc, Nat.xor_self, Nat.xor_zero]
theorem mulX_xor (a b : Nat) : mulX (a ^^^ b) = mulX a ^^^ mulX b := by
  unfold mulX
  rw [Nat.shiftRight_xor_distrib, xor4]
  congr 1
  have h : (a ^^^ b) % 2 = (a % 2 + b % 2) % 2 := by
    have := Nat.testBit_xor a b 0
    rw [Nat.testBit_zero, Nat.testBit_zero, Nat.testBit_zero] at this
    rcases Nat.mod_two_eq_zero_or_one (a ^^^ b) with hc | hc <;> rcases Nat.mod_two_eq_zero_or_one a with ha | ha <;> rcases Nat.mod_two_eq_zero_or_one b with hb | hb <;> simp [ha, hb, hc] at this ⊢
  rcases Nat.mod_two_eq_zero_or_one a with ha | ha <;> rcases Nat.mod_two_eq_zero_or_one b with hb | hb <;> simp [h, ha, hb]
theorem mulX_zero : mulX 0 = 0 := rfl
theorem mulX_sel (b : Bool) (x : Nat) : mulX (sel b x) = sel b (mulX x) := by cases b <;> simp [sel, mulX_zero]
theorem pw_xor (i a b : Nat) : pw i (a ^^^ b) = pw i a ^^^ pw i b := by
  induction i with
  | zero => rfl
  | succ i ih => simp [pw, ih, mulX_xor]
theorem pw_zero (i : Nat) : pw i 0 = 0 := by induction i with
  | zero => rfl
  | succ i ih => simp [pw, ih, mulX_zero]
theorem pw_sel (i : Nat) (b : Bool) (x : Nat) : pw i (sel b x) = sel b (pw i x) := by cases b <;> simp [sel, pw_zero]
theorem pw_xs (i n : Nat) (f : Nat → Nat) : pw i (xs n f) = xs n fun k => pw i (f k) := by
  induction n with
  | zero => exact pw_zero i
  | succ n ih => simp [xs, pw_xor, ih]
theorem pw_add (i j y : Nat) : pw (i + j) y = pw i (pw j y) := by
  induction i with
  | zero => simp [pw]
  | succ i ih => rw [Nat.add_right_comm]; simp [pw, ih]
theorem xs_congr {n : Nat} {f g : Nat → Nat} (h : ∀ i, i < n → f i = g i) : xs n f = xs n g := by
  induction n with
  | zero => rfl
  | succ n ih => simp [xs, ih (fun i hi => h i (by omega)), h n (by omega)]
/-- one summand turned -/
theorem xs_turn {n k : Nat} {f g : Nat → Nat} {d : Nat} (hk : k < n) (h : ∀ i, i ≠ k → g i = f i) (hd : g k = f k ^^^ d) : xs n g = xs n f ^^^ d := by
  induction n with
  | zero => omega
  | succ n ih =>
    simp only [xs]
    by_cases hkn : k = n
    · subst hkn
      rw [hd, xs_congr (f := g) (g := f) (fun i hi => h i (by omega)), Nat.xor_assoc]
    · rw [ih (by omega), h n (by omega), Nat.xor_assoc, Nat.xor_comm d, ← Nat.xor_assoc]

/-! x to the power i -/
def ex (i : Nat) : Nat := pw i (2 ^ 127)
theorem ex_low : ∀ i, i ≤ 127 → ex i = 2 ^ (127 - i) := by
  intro i
  induction i with
  | zero => intro _; rfl
  | succ i ih =>
    intro hi
    have h := ih (by omega)
    unfold ex at h ⊢
    rw [pw, h]
    have e : 127 - i = (127 - (i + 1)) + 1 := by omega
    unfold mulX
    rw [e, Nat.pow_succ]
    have h2 : (2 ^ (127 - (i + 1)) * 2) % 2 = 0 := by omega
    rw [if_neg (by omega), Nat.xor_zero, Nat.shiftRight_eq_div_pow]
    omega
set_option maxRecDepth 10000 in
theorem ex_128 : ex 128 = ex 0 ^^^ ex 1 ^^^ ex 2 ^^^ ex 7 := by decide +kernel
theorem pw_ex (j a : Nat) : pw j (ex a) = ex (j + a) := (pw_add j a _).symm
theorem ex_high (j : Nat) : ex (j + 128) = ex j ^^^ ex (j + 1) ^^^ ex (j + 2) ^^^ ex (j + 7) := by
  rw [← pw_ex j 128, ex_128, pw_xor, pw_xor, pw_xor, pw_ex, pw_ex, pw_ex, pw_ex, Nat.add_zero]
theorem xs_bits : ∀ (y : Nat), y < 2 ^ 128 → y = xs 128 fun i => sel (bitX y i) (ex i) := by
  intro y hy
  have key : ∀ n, n ≤ 128 → xs n (fun i => sel (bitX y i) (ex i)) = (y >>> (128 - n)) <<< (128 - n) := by
    intro n
    induction n with
    | zero => intro _; simp [xs, Nat.shiftRight_eq_div_pow, Nat.div_eq_of_lt hy]
    | succ n ih =>
      intro hn
      rw [xs, ih (by omega), ex_low n (by omega)]
      apply Nat.eq_of_testBit_eq
      intro j
      simp only [Nat.testBit_xor, Nat.testBit_shiftLeft, Nat.testBit_shiftRight, bitX]
      have e1 : ∀ m, m ≤ j → m + (j - m) = j := fun m h => by omega
      have hs : (sel (y.testBit (127 - n)) (2 ^ (127 - n))).testBit j = (decide (127 - n = j) && y.testBit (127 - n)) := by
        cases y.testBit (127 - n) <;> simp [sel, Nat.testBit_two_pow]
      rw [hs]
      by_cases h1 : 128 - n ≤ j
      · rw [decide_eq_true (show j ≥ 128 - n from h1), decide_eq_true (show j ≥ 128 - (n + 1) by omega), decide_eq_false (show ¬ 127 - n = j by omega), e1 _ h1, e1 _ (by omega)]
        simp
      · by_cases h2 : 128 - (n + 1) ≤ j
        · rw [decide_eq_false (show ¬ j ≥ 128 - n from h1), decide_eq_true (show j ≥ 128 - (n + 1) from h2), decide_eq_true (show 127 - n = j by omega), e1 _ h2, show 127 - n = j by omega]
          simp
        · rw [decide_eq_false (show ¬ j ≥ 128 - n from h1), decide_eq_false (show ¬ j ≥ 128 - (n + 1) from h2), decide_eq_false (show ¬ 127 - n = j by omega)]
          simp
  have := key 128 (Nat.le_refl _)
  simpa using this.symm
theorem pw_bits (y : Nat) (hy : y < 2 ^ 128) (i : Nat) : pw i y = xs 128 fun k => sel (bitX y k) (ex (i + k)) := by
  have := congrArg (pw i) (xs_bits y hy)
  rw [this, pw_xs]
  refine xs_congr fun k _ => ?_
  rw [pw_sel]
  rw [show pw i (ex k) = ex (i + k) from (pw_add i k _).symm]

/-! two words -/
def N2 (h l : Nat) : Nat := 2 ^ 64 * h + l
theorem N2_lt {h l : Nat} (hh : h < 2 ^ 64) (hl : l < 2 ^ 64) : N2 h l < 2 ^ 128 := by unfold N2; omega
theorem N2_bit {h l : Nat} (hl : l < 2 ^ 64) (j : Nat) : (N2 h l).testBit j = if j < 64 then l.testBit j else h.testBit (j - 64) := Nat.testBit_two_pow_mul_add _ hl _
theorem N2_hi {h l i : Nat} (hl : l < 2 ^ 64) (hi : i < 64) : bitX (N2 h l) i = h.testBit (63 - i) := by
  unfold bitX
  rw [N2_bit hl, if_neg (by omega), show 127 - i - 64 = 63 - i by omega]
theorem N2_lo {h l i : Nat} (hl : l < 2 ^ 64) (hi : 64 ≤ i) (h2 : i < 128) : bitX (N2 h l) i = l.testBit (127 - i) := by
  unfold bitX
  rw [N2_bit hl, if_pos (by omega)]
theorem N2_xor {a b c d : Nat} (hb : b < 2 ^ 64) (hd : d < 2 ^ 64) : N2 (a ^^^ c) (b ^^^ d) = N2 a b ^^^ N2 c d := by
  apply Nat.eq_of_testBit_eq
  intro j
  rw [Nat.testBit_xor, N2_bit hb, N2_bit hd, N2_bit (Nat.xor_lt_two_pow hb hd)]
  by_cases h : j < 64 <;> simp [h]
theorem N2_odd (h l : Nat) : N2 h l % 2 = l % 2 := by unfold N2; omega
def gW : Nat := 0xe1 <<< 56
theorem gE_two : gE = N2 gW 0 := by decide +kernel
theorem N2_shift (h l : Nat) (hl : l < 2 ^ 64) : N2 (h / 2) (l / 2 + h % 2 * 2 ^ 63) = N2 h l >>> 1 := by
  unfold N2
  rw [Nat.shiftRight_eq_div_pow]
  omega
theorem N2_mulX (h l : Nat) (hl : l < 2 ^ 64) : N2 (h / 2 ^^^ (if l % 2 = 1 then gW else 0)) (l / 2 + h % 2 * 2 ^ 63) = mulX (N2 h l) := by
  unfold mulX
  rw [← N2_shift h l hl, N2_odd]
  have e : (if l % 2 = 1 then gE else 0) = N2 (if l % 2 = 1 then gW else 0) 0 := by
    by_cases h1 : l % 2 = 1 <;> simp [h1, gE_two, N2]
  rw [e, ← N2_xor (by omega) (by omega), Nat.xor_zero]

/-! the coefficients, one by one -/
theorem at_set (l : List Nat) (k v i : Nat) (hk : k < l.length) : at' (l.set k v) i = if i = k then v else at' l i := by
  unfold at'
  rw [List.getElem?_set]
  by_cases h : k = i
  · subst h; simp [hk]
  · rw [if_neg h, if_neg (Ne.symm h)]
def Bin (l : List Nat) : Prop := ∀ i, at' l i ≤ 1
def vl (l : List Nat) : Nat := xs 255 fun i => sel (at' l i == 1) (ex i)
theorem sel_xor {a d : Nat} (ha : a ≤ 1) (hd : d ≤ 1) (x : Nat) : sel ((a ^^^ d) == 1) x = sel (a == 1) x ^^^ sel (d == 1) x := by
  obtain rfl | rfl : a = 0 ∨ a = 1 := by omega
  all_goals obtain rfl | rfl : d = 0 ∨ d = 1 := by omega
  all_goals simp [sel]
theorem xor_le_one {a d : Nat} (ha : a ≤ 1) (hd : d ≤ 1) : a ^^^ d ≤ 1 := by
  obtain rfl | rfl : a = 0 ∨ a = 1 := by omega
  all_goals obtain rfl | rfl : d = 0 ∨ d = 1 := by omega
  all_goals simp
theorem vl_turn {l : List Nat} (hl : l.length = 255) (hb : Bin l) {k d : Nat} (hk : k < 255) (hd : d ≤ 1) : vl (l.set k (at' l k ^^^ d)) = vl l ^^^ sel (d == 1) (ex k) ∧ Bin (l.set k (at' l k ^^^ d)) := by
  constructor
  · unfold vl
    refine xs_turn hk (fun i hi => ?_) ?_
    · rw [at_set _ _ _ _ (by omega), if_neg hi]
    · rw [at_set _ _ _ _ (by omega), if_pos rfl, sel_xor (hb k) hd]
  · intro i
    rw [at_set _ _ _ _ (by omega)]
    by_cases h : i = k
    · rw [if_pos h]; exact xor_le_one (hb k) hd
    · rw [if_neg h]; exact hb i
theorem vl_clear {l : List Nat} (hl : l.length = 255) (hb : Bin l) {k : Nat} (hk : k < 255) (h1 : at' l k = 1) : vl (l.set k 0) = vl l ^^^ ex k ∧ Bin (l.set k 0) := by
  have := vl_turn hl hb hk (d := 1) (by omega)
  rw [h1] at this
  exact this
theorem bin_zeros (n : Nat) : Bin (List.replicate n 0) := by
  intro i
  unfold at'
  rw [List.getElem?_replicate]
  by_cases h : i < n <;> simp [h]
theorem at_zeros (m n : Nat) : at' (List.replicate m 0) n = 0 := by
  unfold at'
  rw [List.getElem?_replicate]
  by_cases h : n < m <;> simp [h]
theorem xs_zero (n : Nat) : xs n (fun _ => 0) = 0 := by
  induction n with
  | zero => rfl
  | succ n ih => rw [xs, ih]; rfl
theorem vl_zeros (m : Nat) : vl (List.replicate m 0) = 0 := by
  unfold vl
  rw [xs_congr (g := fun _ => 0) (fun i _ => by rw [at_zeros]; rfl), xs_zero]
/-- the four others at one that falls -/
def fall (l : List Nat) (i : Nat) : List Nat :=
  let a := l.set i 0
  let b := a.set (i - 128) (at' a (i - 128) ^^^ 1)
  let c := b.set (i - 127) (at' b (i - 127) ^^^ 1)
  let d := c.set (i - 126) (at' c (i - 126) ^^^ 1)
  d.set (i - 121) (at' d (i - 121) ^^^ 1)
theorem fall_len (l : List Nat) (i : Nat) : (fall l i).length = l.length := by simp [fall]
theorem fall_gt {l : List Nat} (hl : l.length = 255) {i k : Nat} (hi : 128 ≤ i) (h2 : i < 255) (hk : i ≤ k) : at' (fall l i) k = if k = i then 0 else at' l k := by
  unfold fall
  simp only
  rw [at_set _ _ _ _ (by simp; omega), if_neg (by omega), at_set _ _ _ _ (by simp; omega), if_neg (by omega), at_set _ _ _ _ (by simp; omega), if_neg (by omega), at_set _ _ _ _ (by simp; omega), if_neg (by omega), at_set _ _ _ _ (by omega)]
theorem fall_vl {l : List Nat} (hl : l.length = 255) (hb : Bin l) {i : Nat} (hi : 128 ≤ i) (h2 : i < 255) (h1 : at' l i = 1) : vl (fall l i) = vl l ∧ Bin (fall l i) := by
  have a := vl_clear hl hb h2 h1
  have b := vl_turn (l := l.set i 0) (by simpa using hl) a.2 (k := i - 128) (d := 1) (by omega) (by omega)
  have c := vl_turn (l := (l.set i 0).set (i - 128) (at' (l.set i 0) (i - 128) ^^^ 1)) (by simpa using hl) b.2 (k := i - 127) (d := 1) (by omega) (by omega)
  have d := vl_turn (l := ((l.set i 0).set (i - 128) (at' (l.set i 0) (i - 128) ^^^ 1)).set (i - 127) (at' ((l.set i 0).set (i - 128) (at' (l.set i 0) (i - 128) ^^^ 1)) (i - 127) ^^^ 1)) (by simpa using hl) c.2 (k := i - 126) (d := 1) (by omega) (by omega)
  have e := vl_turn (l := (((l.set i 0).set (i - 128) (at' (l.set i 0) (i - 128) ^^^ 1)).set (i - 127) (at' ((l.set i 0).set (i - 128) (at' (l.set i 0) (i - 128) ^^^ 1)) (i - 127) ^^^ 1)).set (i - 126) (at' (((l.set i 0).set (i - 128) (at' (l.set i 0) (i - 128) ^^^ 1)).set (i - 127) (at' ((l.set i 0).set (i - 128) (at' (l.set i 0) (i - 128) ^^^ 1)) (i - 127) ^^^ 1)) (i - 126) ^^^ 1)) (by simpa using hl) d.2 (k := i - 121) (d := 1) (by omega) (by omega)
  refine ⟨?_, e.2⟩
  unfold fall
  simp only
  rw [e.1, d.1, c.1, b.1, a.1]
  simp only [sel, beq_self_eq_true, if_true]
  have h := ex_high (i - 128)
  rw [show i - 128 + 128 = i by omega, show i - 128 + 1 = i - 127 by omega, show i - 128 + 2 = i - 126 by omega, show i - 128 + 7 = i - 121 by omega] at h
  rw [h]
  generalize ex (i - 128) = p, ex (i - 127) = q, ex (i - 126) = r, ex (i - 121) = s, vl l = v
  have : v ^^^ (p ^^^ q ^^^ r ^^^ s) ^^^ p ^^^ q ^^^ r ^^^ s = v ^^^ ((p ^^^ q ^^^ r ^^^ s) ^^^ (p ^^^ q ^^^ r ^^^ s)) := by simp only [Nat.xor_assoc]
  rw [this, Nat.xor_self, Nat.xor_zero]

/-! bytes of coefficients -/
def bn (l : List Nat) (s : Nat) : Nat → Nat
  | 0 => 0
  | m + 1 => 2 * bn l s m + at' l (s + m)
theorem bn_lt {l : List Nat} (hb : Bin l) (s m : Nat) : bn l s m < 2 ^ m := by
  induction m with
  | zero => simp [bn]
  | succ m ih => have := hb (s + m); rw [bn, Nat.pow_succ]; omega
theorem bn_bit {l : List Nat} (hb : Bin l) (s : Nat) : ∀ m r, r < m → (bn l s m).testBit (m - 1 - r) = (at' l (s + r) == 1) := by
  intro m
  induction m with
  | zero => intro r h; omega
  | succ m ih =>
    intro r hr
    have h1 := hb (s + m)
    rw [bn]
    have e := Nat.testBit_two_pow_mul_add (i := 1) (bn l s m) (b := at' l (s + m)) (by omega) (m + 1 - 1 - r)
    rw [Nat.pow_one] at e
    rw [e]
    by_cases h : r = m
    · subst h
      rw [if_pos (by omega), show r + 1 - 1 - r = 0 by omega, Nat.testBit_zero]
      obtain h2 | h2 : at' l (s + r) = 0 ∨ at' l (s + r) = 1 := by omega
      all_goals simp [h2]
    · rw [if_neg (by omega), show m + 1 - 1 - r - 1 = m - 1 - r by omega, ih r (by omega)]
/-- the bytes behind i rounds -/
def zB (l : List Nat) (i : Nat) : List Nat := (List.range 16).map fun j => bn l (8 * j) (min (i - 8 * j) 8)
theorem zB_len (l : List Nat) (i : Nat) : (zB l i).length = 16 := by simp [zB]
theorem zB_gt (l : List Nat) (i j : Nat) (h : j < 16) : at' (zB l i) j = bn l (8 * j) (min (i - 8 * j) 8) := by simp [zB, at', h]
theorem zB_zero (l : List Nat) : zB l 0 = List.replicate 16 0 := by
  apply List.ext_getElem (by simp [zB])
  intro i h1 h2
  rw [List.getElem_replicate]
  simp [zB, bn]
theorem zB_step (l : List Nat) (i : Nat) (h : i < 128) : (zB l i).set (i / 8) (2 * at' (zB l i) (i / 8) + at' l i) = zB l (i + 1) := by
  have hg := zB_gt l i (i / 8) (by omega)
  rw [hg]
  clear hg
  apply List.ext_getElem (by simp [zB])
  intro j h1 h2
  have hj : j < 16 := by simpa [zB] using h2
  rw [List.getElem_set]
  by_cases he : i / 8 = j
  · rw [if_pos he]
    subst he
    simp only [zB, List.getElem_map, List.getElem_range]
    rw [show min (i + 1 - 8 * (i / 8)) 8 = min (i - 8 * (i / 8)) 8 + 1 by omega, bn, show 8 * (i / 8) + min (i - 8 * (i / 8)) 8 = i by omega]
  · rw [if_neg he]
    simp only [zB, List.getElem_map, List.getElem_range]
    rw [show min (i + 1 - 8 * j) 8 = min (i - 8 * j) 8 by omega]

/-! numbers of bytes, bit by bit -/
theorem snoc_ind {P : List Nat → Prop} (h0 : P []) (h1 : ∀ l x, P l → P (l ++ [x])) : ∀ l, P l := by
  have key : ∀ n (l : List Nat), l.length = n → P l := by
    intro n
    induction n with
    | zero => intro l hl; rw [List.eq_nil_of_length_eq_zero hl]; exact h0
    | succ n ih =>
      intro l hl
      obtain ⟨m, x, rfl⟩ : ∃ m x, l = m ++ [x] := ⟨l.dropLast, l.getLast (by intro h; rw [h] at hl; simp at hl), (List.dropLast_concat_getLast _).symm⟩
      exact h1 m x (ih m (by simpa using hl))
  exact fun l => key _ l rfl
theorem at_left (l m : List Nat) (i : Nat) (h : i < l.length) : at' (l ++ m) i = at' l i := by simp [at', List.getElem?_append_left h]
theorem at_last (l : List Nat) (x : Nat) : at' (l ++ [x]) l.length = x := by simp [at']
theorem numB_bit : ∀ (l : List Nat), Byt l → ∀ i, i < 8 * l.length → (numB l).testBit (8 * l.length - 1 - i) = (at' l (i / 8)).testBit (7 - i % 8) := by
  refine snoc_ind (fun _ i hi => by simp at hi) fun l x ih hb i hi => ?_
  have hx : x < 256 := hb x (by simp)
  have hbl : Byt l := fun y hy => hb y (by simp [hy])
  rw [List.length_append, List.length_singleton] at hi
  have e := Nat.testBit_two_pow_mul_add (i := 8) (numB l) (b := x) hx (8 * (l ++ [x]).length - 1 - i)
  rw [show (2 : Nat) ^ 8 = 256 from rfl] at e
  rw [numB_snoc, e, List.length_append, List.length_singleton]
  by_cases h : i < 8 * l.length
  · rw [if_neg (by omega), at_left _ _ _ (by omega), ← ih hbl i h, show 8 * (l.length + 1) - 1 - i - 8 = 8 * l.length - 1 - i by omega]
  · rw [if_pos (by omega), show i / 8 = l.length by omega, at_last]
    congr 1
    omega
theorem digB_numB : ∀ (l : List Nat), Byt l → digB (numB l) l.length = l := by
  refine snoc_ind (fun _ => rfl) fun l x ih hb => ?_
  have hx : x < 256 := hb x (by simp)
  rw [List.length_append, List.length_singleton, digB, numB_snoc]
  rw [show (256 * numB l + x) / 256 = numB l by omega, show (256 * numB l + x) % 256 = x by omega, ih (fun y hy => hb y (by simp [hy]))]
theorem byt_gt {l : List Nat} (h : Byt l) (i : Nat) : at' l i < 256 := by
  unfold at'
  cases e : l[i]? with
  | none => simp
  | some x => exact h x (List.mem_of_getElem? e)
theorem zB_byt {l : List Nat} (hb : Bin l) (i : Nat) : Byt (zB l i) := by
  intro x hx
  obtain ⟨j, hj, rfl⟩ := List.mem_map.1 hx
  exact Nat.lt_of_lt_of_le (bn_lt hb _ _) (Nat.pow_le_pow_right (n := 2) (i := min (i - 8 * j) 8) (j := 8) (by omega) (by omega))
theorem bitX_numB {y : List Nat} (hy : Byt y) (ly : y.length = 16) {i : Nat} (hi : i < 128) : bitX (numB y) i = (at' y (i / 8)).testBit (7 - i % 8) := by
  have := numB_bit y hy i (by omega)
  rw [ly] at this
  exact this
theorem numB_lt16 {y : List Nat} (hy : Byt y) (ly : y.length = 16) : numB y < 2 ^ 128 := by
  have := numB_lt hy
  rw [ly] at this
  exact this
theorem xs_split (n m : Nat) (f : Nat → Nat) : xs (n + m) f = xs n f ^^^ xs m fun i => f (n + i) := by
  induction m with
  | zero => simp [xs]
  | succ m ih => rw [← Nat.add_assoc, xs, ih, xs, Nat.xor_assoc]
/-- what is left is the number -/
theorem zB_all {l : List Nat} (hb : Bin l) (h0 : ∀ i, 128 ≤ i → i < 255 → at' l i = 0) : zB l 128 = digB (vl l) 16 := by
  have hz := zB_byt hb 128
  have hl := zB_len l 128
  have e1 : vl l = numB (zB l 128) := by
    rw [xs_bits _ (numB_lt16 hz hl)]
    unfold vl
    have := xs_split 128 127 (fun i => sel (at' l i == 1) (ex i))
    rw [this, xs_congr (n := 127) (g := fun _ => 0) (fun i hi => by rw [h0 _ (by omega) (by omega)]; rfl), xs_zero, Nat.xor_zero]
    refine xs_congr fun i hi => ?_
    rw [bitX_numB hz hl hi, zB_gt _ _ _ (by omega), show min (128 - 8 * (i / 8)) 8 = 8 by omega]
    have := bn_bit hb (8 * (i / 8)) 8 (i % 8) (by omega)
    rw [show 8 - 1 - i % 8 = 7 - i % 8 by omega] at this
    rw [this, show 8 * (i / 8) + i % 8 = i by omega]
  rw [e1, ← hl, digB_numB _ hz]

/-! the reference's product: behind i rounds, and k rounds of the next one -/
def bitB (y : List Nat) (i : Nat) : Nat := (at' y (i / 8)) / 2 ^ (7 - i % 8) % 2
theorem bitB_le (y : List Nat) (i : Nat) : bitB y i ≤ 1 := by unfold bitB; omega
theorem bitB_eq {y : List Nat} (hy : Byt y) (ly : y.length = 16) {i : Nat} (hi : i < 128) : (bitB y i == 1) = bitX (numB y) i := by
  rw [bitX_numB hy ly hi, bitB]
  rw [Nat.testBit, Nat.shiftRight_eq_div_pow, Nat.one_and_eq_mod_two]
  rcases Nat.mod_two_eq_zero_or_one (at' y (i / 8) / 2 ^ (7 - i % 8)) with h | h <;> rw [h] <;> rfl
def mid (x y i : Nat) : Nat := xs i fun j => sel (bitX x j) (pw j y)
theorem mid_step (x y i : Nat) : mid x y (i + 1) = mid x y i ^^^ sel (bitX x i) (pw i y) := rfl
def rowY (y i k : Nat) : Nat := xs k fun j => sel (bitX y j) (ex (i + j))
theorem rowY_step (y i k : Nat) : rowY y i (k + 1) = rowY y i k ^^^ sel (bitX y k) (ex (i + k)) := rfl
theorem rowY_all (y i : Nat) (hy : y < 2 ^ 128) : rowY y i 128 = pw i y := (pw_bits y hy i).symm

/-! sums over texts -/
theorem mulX_lt {y : Nat} (h : y < 2 ^ 128) : mulX y < 2 ^ 128 := by
  unfold mulX
  refine Nat.xor_lt_two_pow ?_ ?_
  · rw [Nat.shiftRight_eq_div_pow]; omega
  · split
    · decide +kernel
    · omega
theorem pw_lt {y : Nat} (h : y < 2 ^ 128) (i : Nat) : pw i y < 2 ^ 128 := by
  induction i with
  | zero => exact h
  | succ i ih => exact mulX_lt ih
theorem sel_lt {b : Bool} {y n : Nat} (h : y < 2 ^ n) : sel b y < 2 ^ n := by
  cases b
  · exact Nat.lt_of_le_of_lt (Nat.zero_le _) h
  · exact h
theorem xs_lt {n m : Nat} {f : Nat → Nat} (h : ∀ i, f i < 2 ^ m) : xs n f < 2 ^ m := by
  induction n with
  | zero => exact Nat.lt_of_le_of_lt (Nat.zero_le _) (h 0)
  | succ n ih => exact Nat.xor_lt_two_pow ih (h n)
theorem hmul_lt {x y : Nat} (h : y < 2 ^ 128) : hmul x y < 2 ^ 128 := xs_lt fun i => sel_lt (pw_lt h i)
/-- filled up to sixteen -/
def pad16 (l : List Nat) : List Nat := l ++ zeros (16 - l.length)
theorem pad16_len {l : List Nat} (h : l.length ≤ 16) : (pad16 l).length = 16 := by simp [pad16, zeros_len]; omega
theorem byt_zeros (n : Nat) : Byt (zeros n) := fun x hx => by
  have := List.eq_of_mem_replicate hx
  omega
theorem pad16_byt {l : List Nat} (h : Byt l) : Byt (pad16 l) := byt_app h (byt_zeros _)
def absorb (H s : Nat) (l : List Nat) : Nat :=
  if l.length = 0 then s else absorb H (hmul (s ^^^ numB (pad16 (l.take 16))) H) (l.drop 16)
termination_by l.length
decreasing_by simp; omega
theorem absorb_nil (H s : Nat) : absorb H s [] = s := by rw [absorb]; rfl
theorem absorb_cons (H s : Nat) {l : List Nat} (h : 0 < l.length) : absorb H s l = absorb H (hmul (s ^^^ numB (pad16 (l.take 16))) H) (l.drop 16) := by
  rw [absorb, if_neg (by omega)]
theorem absorb_app (H : Nat) (b : List Nat) : ∀ (n s : Nat) (a : List Nat), a.length = 16 * n → absorb H s (a ++ b) = absorb H (absorb H s a) b := by
  intro n
  induction n with
  | zero =>
    intro s a h
    rw [List.eq_nil_of_length_eq_zero (l := a) (by omega), List.nil_append, absorb_nil]
  | succ n ih =>
    intro s a h
    rw [absorb_cons H s (l := a ++ b) (by simp; omega), absorb_cons H s (l := a) (by omega), List.take_append_of_le_length (by omega), List.drop_append_of_le_length (by omega)]
    exact ih _ _ (by simp; omega)
theorem absorb_snoc (H s n : Nat) {a b : List Nat} (ha : a.length = 16 * n) (hb : b.length = 16) : absorb H s (a ++ b) = hmul (absorb H s a ^^^ numB b) H := by
  rw [absorb_app H b n s a ha, absorb_cons _ _ (by omega), List.take_of_length_le (by omega), List.drop_of_length_le (by omega), absorb_nil]
  simp [pad16, hb, zeros]
/-- filled up to a multiple of sixteen -/
def full (l : List Nat) : List Nat := l ++ zeros ((16 - l.length % 16) % 16)
theorem full_len (l : List Nat) : ∃ n, (full l).length = 16 * n := ⟨(l.length + 15) / 16, by simp [full, zeros_len]; omega⟩
theorem full_byt {l : List Nat} (h : Byt l) : Byt (full l) := byt_app h (byt_zeros _)
theorem absorb_full (H : Nat) : ∀ (n s : Nat) (l : List Nat), l.length ≤ 16 * n → absorb H s (full l) = absorb H s l := by
  intro n
  induction n with
  | zero =>
    intro s l h
    rw [List.eq_nil_of_length_eq_zero (l := l) (by omega)]
    rfl
  | succ n ih =>
    intro s l h
    by_cases h0 : l.length = 0
    · rw [List.eq_nil_of_length_eq_zero h0]
      rfl
    · by_cases h1 : l.length < 16
      · have e : full l = pad16 l := by
          unfold full pad16
          rw [show (16 - l.length % 16) % 16 = 16 - l.length by omega]
        rw [e, absorb_cons H s (l := l) (by omega), absorb_cons H s (l := pad16 l) (by rw [pad16_len (by omega)]; omega), List.take_of_length_le (l := l) (by omega), List.drop_of_length_le (l := l) (by omega), List.take_of_length_le (l := pad16 l) (by rw [pad16_len (by omega)]; omega), List.drop_of_length_le (l := pad16 l) (by rw [pad16_len (by omega)]; omega)]
        have : pad16 (pad16 l) = pad16 l := by
          have := pad16_len (l := l) (by omega)
          rw [show pad16 (pad16 l) = pad16 l ++ zeros (16 - (pad16 l).length) from rfl, this]
          simp [zeros]
        rw [this]
      · rw [absorb_cons H s (l := l) (by omega), absorb_cons H s (l := full l) (by simp [full]; omega), ← ih _ (l.drop 16) (by simp; omega)]
        have e1 : (full l).take 16 = l.take 16 := by unfold full; rw [List.take_append_of_le_length (by omega)]
        have e2 : (full l).drop 16 = full (l.drop 16) := by
          unfold full
          rw [List.drop_append_of_le_length (by omega)]
          congr 2
          simp
          omega
        rw [e1, e2]
/-- P4.2 -/
def hsum (H : Nat) (a t : List Nat) : Nat := hmul (absorb H (absorb H 0 a) t ^^^ N2 (8 * a.length) (8 * t.length)) H
theorem numB_app (a b : List Nat) : numB (a ++ b) = 256 ^ b.length * numB a + numB b := by
  revert a
  refine snoc_ind (P := fun b => ∀ a, numB (a ++ b) = 256 ^ b.length * numB a + numB b) (fun a => by simp [numB]) (fun l x ih a => ?_) b
  rw [← List.append_assoc, numB_snoc, ih, numB_snoc, List.length_append, List.length_singleton, Nat.pow_succ]
  rw [Nat.mul_add, ← Nat.add_assoc, Nat.mul_comm (256 ^ l.length) 256, Nat.mul_assoc]
theorem hsum_ref (H : Nat) (a t : List Nat) (ha : 8 * a.length < 2 ^ 64) (ht : 8 * t.length < 2 ^ 64) : hsum H a t = absorb H 0 (full a ++ full t ++ (digB (8 * a.length) 8 ++ digB (8 * t.length) 8)) := by
  obtain ⟨n, hn⟩ := full_len a
  obtain ⟨m, hm⟩ := full_len t
  rw [absorb_snoc H 0 (n + m) (by simp [hn, hm]; omega) (by simp [digB_len]), absorb_app H (full t) n 0 _ hn, absorb_full H a.length 0 a (by omega), absorb_full H t.length _ t (by omega)]
  unfold hsum
  rw [numB_app, digB_len, numB_digB _ 8 ha, numB_digB _ 8 ht]
  rfl
theorem absorb_lt {H : Nat} (hH : H < 2 ^ 128) : ∀ (n s : Nat) (l : List Nat), l.length ≤ n → s < 2 ^ 128 → absorb H s l < 2 ^ 128 := by
  intro n
  induction n with
  | zero => intro s l h hs; rw [List.eq_nil_of_length_eq_zero (l := l) (by omega), absorb_nil]; exact hs
  | succ n ih =>
    intro s l h hs
    by_cases h0 : l.length = 0
    · rw [List.eq_nil_of_length_eq_zero h0, absorb_nil]; exact hs
    · rw [absorb_cons _ _ (by omega)]
      exact ih _ _ (by simp; omega) (hmul_lt hH)
/-- bytes, one by one -/
def xorL (a b : List Nat) : List Nat := List.zipWith (· ^^^ ·) a b
theorem xorL_len (a b : List Nat) : (xorL a b).length = min a.length b.length := by simp [xorL]
theorem xorL_byt {a b : List Nat} (ha : Byt a) (hb : Byt b) : Byt (xorL a b) := by
  intro x hx
  obtain ⟨i, hi, rfl⟩ := List.getElem_of_mem hx
  have h1 : i < a.length ∧ i < b.length := by rw [xorL_len] at hi; omega
  simp only [xorL, List.getElem_zipWith]
  exact Nat.xor_lt_two_pow (n := 8) (ha _ (List.getElem_mem _)) (hb _ (List.getElem_mem _))
theorem at_xorL {a b : List Nat} (h : a.length = b.length) (i : Nat) : at' (xorL a b) i = at' a i ^^^ at' b i := by
  unfold at' xorL
  rw [List.getElem?_zipWith]
  by_cases hi : i < a.length
  · rw [List.getElem?_eq_getElem hi, List.getElem?_eq_getElem (by omega)]
    rfl
  · rw [List.getElem?_eq_none (by omega), List.getElem?_eq_none (by omega)]
    rfl
theorem numB_xorL {a b : List Nat} (ha : Byt a) (hb : Byt b) (h : a.length = b.length) : numB (xorL a b) = numB a ^^^ numB b := by
  have hl : (xorL a b).length = a.length := by rw [xorL_len]; omega
  apply Nat.eq_of_testBit_eq
  intro j
  rw [Nat.testBit_xor]
  by_cases hj : j < 8 * a.length
  · have h1 := numB_bit _ (xorL_byt ha hb) (8 * a.length - 1 - j) (by omega)
    have h2 := numB_bit _ ha (8 * a.length - 1 - j) (by omega)
    have h3 := numB_bit _ hb (8 * a.length - 1 - j) (by omega)
    rw [hl] at h1
    rw [← h] at h3
    rw [show 8 * a.length - 1 - (8 * a.length - 1 - j) = j by omega] at h1 h2 h3
    rw [h1, h2, h3, at_xorL h, Nat.testBit_xor]
  · have big : ∀ {l : List Nat}, Byt l → l.length = a.length → (numB l).testBit j = false := by
      intro l hl hll
      apply Nat.testBit_lt_two_pow
      have := numB_lt hl
      rw [hll] at this
      have e : (256 : Nat) ^ a.length = 2 ^ (8 * a.length) := by rw [Nat.pow_mul]
      rw [e] at this
      exact Nat.lt_of_lt_of_le this (Nat.pow_le_pow_right (by omega) (by omega))
    rw [big (xorL_byt ha hb) hl, big ha rfl, big hb h.symm]
    rfl
end Go.Proofs.YtakgebbeknfplaaGreat
