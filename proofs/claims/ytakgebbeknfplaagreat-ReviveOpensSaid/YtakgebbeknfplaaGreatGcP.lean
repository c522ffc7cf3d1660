/-
  PLAIN: counter mode (P5.1, P5.2): what is told byte by byte; there and back; the beginning.
  PLAIN: what seals and opens (P6.1, P6.2).
-/
import Derived.Test.YtakgebbeknfplaaGreatCtC
import Derived.Test.YtakgebbeknfplaaGreatLaC
import Derived.Test.YtakgebbeknfplaaGreatGhP
namespace Go.Proofs.YtakgebbeknfplaaGreat
open Go.RowKit
set_option linter.unusedVariables false

/-- a block under a key -/
def encA (key x : List Nat) : List Nat := encK (wordsAll (key.length / 4) key) (key.length / 4 + 6) x
theorem encA_len (key x : List Nat) : (encA key x).length = 16 := encK_len _ _ _
def KeyOk (key : List Nat) : Prop := key.length = 16 ∨ key.length = 32
theorem KeyOk.four {key : List Nat} (h : KeyOk key) : key.length / 4 = 4 ∨ key.length / 4 = 8 := by rcases h with h | h <;> rw [h] <;> decide
theorem KeyOk.len {key : List Nat} (h : KeyOk key) : key.length = 4 * (key.length / 4) := by rcases h with h | h <;> omega
theorem encA_byt {key x : List Nat} (hk : KeyOk key) (hb : Byt key) (hx : Byt x) : Byt (encA key x) := encK_byt (wordsAll_exp hk.four hk.len hb).byt hx
def nextN (c : List Nat) : Nat → List Nat
  | 0 => c
  | m + 1 => nextC (nextN c m)
theorem nextN_len {c : List Nat} (h : c.length = 16) (m : Nat) : (nextN c m).length = 16 := by
  induction m with
  | zero => exact h
  | succ m ih => exact nextC_len ih
theorem nextN_byt {c : List Nat} (h : Byt c) (m : Nat) : Byt (nextN c m) := by
  induction m with
  | zero => exact h
  | succ m ih => exact nextC_byt ih
/-- byte number j of the stream -/
def ksB (key first : List Nat) (j : Nat) : Nat := at' (encA key (nextN first (j / 16 + 1))) (j % 16)
theorem ksB_lt {key first : List Nat} (hk : KeyOk key) (hb : Byt key) (hf : Byt first) (j : Nat) : ksB key first j < 256 := (encA_byt hk hb (nextN_byt hf _)).at' _
def cryptA (key nonce text : List Nat) : List Nat := (List.range text.length).map fun i => at' text i ^^^ ksB key (firstC nonce) i
theorem cryptA_len (key nonce text : List Nat) : (cryptA key nonce text).length = text.length := by simp [cryptA]
theorem cryptA_at {key nonce text : List Nat} {i : Nat} (h : i < text.length) : at' (cryptA key nonce text) i = at' text i ^^^ ksB key (firstC nonce) i := by simp [cryptA, at', h]
theorem xor_lt256 {a b : Nat} (ha : a < 256) (hb : b < 256) : a ^^^ b < 256 := Nat.xor_lt_two_pow (n := 8) ha hb
theorem cryptA_byt {key nonce text : List Nat} (hk : KeyOk key) (hb : Byt key) (hn : Byt nonce) (ht : Byt text) : Byt (cryptA key nonce text) := by
  intro x hx
  obtain ⟨i, hi, rfl⟩ := List.mem_map.1 hx
  exact xor_lt256 (ht.at' i) (ksB_lt hk hb (firstC_byt hn) i)
theorem at'_ext {a b : List Nat} (hl : a.length = b.length) (h : ∀ i, i < a.length → at' a i = at' b i) : a = b := by
  apply List.ext_getElem hl
  intro i h1 h2
  have := h i h1
  simpa [at', List.getElem?_eq_getElem h1, List.getElem?_eq_getElem h2] using this
theorem crypt_crypt (key nonce text : List Nat) : cryptA key nonce (cryptA key nonce text) = text := by
  refine at'_ext (by rw [cryptA_len, cryptA_len]) fun i hi => ?_
  rw [cryptA_len, cryptA_len] at hi
  rw [cryptA_at (by rw [cryptA_len]; exact hi), cryptA_at hi, Nat.xor_assoc, Nat.xor_self, Nat.xor_zero]
theorem crypt_take (key nonce text : List Nat) (n : Nat) : cryptA key nonce (text.take n) = (cryptA key nonce text).take n := by
  have hl : (cryptA key nonce (text.take n)).length = ((cryptA key nonce text).take n).length := by simp [cryptA_len]
  refine at'_ext hl fun i hi => ?_
  rw [cryptA_len, List.length_take] at hi
  have e : ∀ l : List Nat, at' (l.take n) i = at' l i := fun l => by simp [at', show i < n by omega]
  rw [cryptA_at (by rw [List.length_take]; omega), e, e, cryptA_at (by omega)]
/-- P5.2, with its refusals: 2: ErrArg, 3: ErrLong -/
def cryptS (key nonce text : List Nat) : List Nat × Nat :=
  if (key.length = 16 ∨ key.length = 32) ∧ nonce.length = 12 then if text.length > 65536 then ([], 3) else (cryptA key nonce text, 0) else ([], 2)
theorem cryptS_ok {key nonce text : List Nat} (hk : KeyOk key) (hn : nonce.length = 12) (ht : text.length ≤ 65536) : cryptS key nonce text = (cryptA key nonce text, 0) := by
  unfold cryptS
  rw [if_pos ⟨hk, hn⟩, if_neg (by omega)]
theorem cryptS_long {key nonce text : List Nat} (hk : KeyOk key) (hn : nonce.length = 12) (ht : 65536 < text.length) : cryptS key nonce text = ([], 3) := by
  unfold cryptS
  rw [if_pos ⟨hk, hn⟩, if_pos (by omega)]
theorem cryptS_arg {key nonce text : List Nat} (h : ¬ (KeyOk key ∧ nonce.length = 12)) : cryptS key nonce text = ([], 2) := by
  unfold cryptS
  exact if_neg h
end Go.Proofs.YtakgebbeknfplaaGreat

namespace Go.Proofs.YtakgebbeknfplaaGreat
open Go.RowKit
set_option linter.unusedVariables false

theorem xorL_at {a b : List Nat} (h : a.length = b.length) (i : Nat) : at' (xorL a b) i = at' a i ^^^ at' b i := at_xorL h i
/-- the sum of a text, as bytes -/
def sumB (h aad text : List Nat) : List Nat := digB (hsum (numB h) aad text) 16
theorem sumB_len (h aad text : List Nat) : (sumB h aad text).length = 16 := digB_len _ _
theorem sumB_byt (h aad text : List Nat) : Byt (sumB h aad text) := digB_byt _ _
def tagA (key nonce aad b : List Nat) : List Nat := xorL (sumB (encA key z16) aad b) (encA key (firstC nonce))
theorem tagA_len (key nonce aad b : List Nat) : (tagA key nonce aad b).length = 16 := by rw [tagA, xorL_len, sumB_len, encA_len]; rfl
theorem z16_byt : Byt z16 := by unfold Byt z16; decide
theorem tagA_byt {key nonce aad b : List Nat} (hk : KeyOk key) (hb : Byt key) (hn : Byt nonce) : Byt (tagA key nonce aad b) := xorL_byt (sumB_byt _ _ _) (encA_byt hk hb (firstC_byt hn))
def sealA (key nonce aad text : List Nat) : List Nat := cryptA key nonce text ++ tagA key nonce aad (cryptA key nonce text)
theorem sealA_len (key nonce aad text : List Nat) : (sealA key nonce aad text).length = text.length + 16 := by rw [sealA, List.length_append, cryptA_len, tagA_len]
def GOk (key nonce : List Nat) : Prop := (key.length = 16 ∨ key.length = 32) ∧ nonce.length = 12
instance (key nonce : List Nat) : Decidable (GOk key nonce) := by unfold GOk; infer_instance
/-- with the refusals: 2: ErrArg, 3: ErrLong -/
def sealS (key nonce aad text : List Nat) : List Nat × Nat :=
  if GOk key nonce then if 65536 < aad.length ∨ 65536 < text.length then ([], 3) else (sealA key nonce aad text, 0) else ([], 2)
/-- .. 4: ErrShort, 60: ErrTag -/
def openS (key nonce aad s : List Nat) : List Nat × Nat :=
  if GOk key nonce then
    if 65536 < aad.length ∨ 65552 < s.length then ([], 3)
    else if s.length < 16 then ([], 4)
    else if tagA key nonce aad (s.take (s.length - 16)) = s.drop (s.length - 16) then (cryptA key nonce (s.take (s.length - 16)), 0) else ([], 60)
  else ([], 2)
theorem open_seal {key nonce aad text : List Nat} (h : GOk key nonce) (ha : aad.length ≤ 65536) (ht : text.length ≤ 65536) : openS key nonce aad (sealA key nonce aad text) = (text, 0) := by
  have hl := sealA_len key nonce aad text
  have e1 : (sealA key nonce aad text).take ((sealA key nonce aad text).length - 16) = cryptA key nonce text := by
    rw [hl, Nat.add_sub_cancel, sealA, List.take_append_of_le_length (by rw [cryptA_len]; omega), List.take_of_length_le (by rw [cryptA_len]; omega)]
  have e2 : (sealA key nonce aad text).drop ((sealA key nonce aad text).length - 16) = tagA key nonce aad (cryptA key nonce text) := by
    rw [hl, Nat.add_sub_cancel, sealA, List.drop_append_of_le_length (by rw [cryptA_len]; omega), List.drop_of_length_le (by rw [cryptA_len]; omega), List.nil_append]
  unfold openS
  rw [if_pos h, if_neg (by omega), if_neg (by omega), e1, e2, if_pos rfl, crypt_crypt]
end Go.Proofs.YtakgebbeknfplaaGreat
