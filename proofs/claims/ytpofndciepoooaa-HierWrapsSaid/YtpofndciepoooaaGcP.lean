/-
  PLAIN: what seals and opens (P6.1, P6.2).
-/
import Derived.Test.YtpofndciepoooaaCtP
import Derived.Test.YtpofndciepoooaaGhP
namespace Go.Proofs.Ytpofndciepoooaa
open Go.RowKit
set_option linter.unusedVariables false

theorem xorL_at {a b : List Nat} (h : a.length = b.length) (i : Nat) : at' (xorL a b) i = at' a i ^^^ at' b i := at_xorL h i
/-- the sum of a text, as bytes -/
def sumB (h aad text : List Nat) : List Nat := digB (hsum (numB h) aad text) 16
theorem sumB_len (h aad text : List Nat) : (sumB h aad text).length = 16 := digB_len _ _
theorem sumB_byt (h aad text : List Nat) : Byt (sumB h aad text) := digB_byt _ _
def tagA (key nonce aad b : List Nat) : List Nat := xorL (sumB (encA key z16) aad b) (encA key (firstC nonce))
theorem tagA_len (key nonce aad b : List Nat) : (tagA key nonce aad b).length = 16 := by rw [tagA, xorL_len, sumB_len, encA_len]; rfl
theorem z16_byt : Byt z16 := by unfold Byt z16; decide
theorem tagA_byt {key nonce aad b : List Nat} (hk : KeyOk key) (hb : Byt key) (hn : Byt nonce) : Byt (tagA key nonce aad b) := xorL_byt (sumB_byt _ _ _) (encA_byt hk hb (firstC_byt hn))
def sealA (key nonce aad text : List Nat) : List Nat := cryptA key nonce text ++ tagA key nonce aad (cryptA key nonce text)
theorem sealA_len (key nonce aad text : List Nat) : (sealA key nonce aad text).length = text.length + 16 := by rw [sealA, List.length_append, cryptA_len, tagA_len]
def GOk (key nonce : List Nat) : Prop := (key.length = 16 ∨ key.length = 32) ∧ nonce.length = 12
instance (key nonce : List Nat) : Decidable (GOk key nonce) := by unfold GOk; infer_instance
/-- with the refusals: 2: ErrArg, 3: ErrLong -/
def sealS (key nonce aad text : List Nat) : List Nat × Nat :=
  if GOk key nonce then if 65536 < aad.length ∨ 65536 < text.length then ([], 3) else (sealA key nonce aad text, 0) else ([], 2)
/-- .. 4: ErrShort, 60: ErrTag -/
def openS (key nonce aad s : List Nat) : List Nat × Nat :=
  if GOk key nonce then
    if 65536 < aad.length ∨ 65552 < s.length then ([], 3)
    else if s.length < 16 then ([], 4)
    else if tagA key nonce aad (s.take (s.length - 16)) = s.drop (s.length - 16) then (cryptA key nonce (s.take (s.length - 16)), 0) else ([], 60)
  else ([], 2)
theorem open_seal {key nonce aad text : List Nat} (h : GOk key nonce) (ha : aad.length ≤ 65536) (ht : text.length ≤ 65536) : openS key nonce aad (sealA key nonce aad text) = (text, 0) := by
  have hl := sealA_len key nonce aad text
  have e1 : (sealA key nonce aad text).take ((sealA key nonce aad text).length - 16) = cryptA key nonce text := by
    rw [hl, Nat.add_sub_cancel, sealA, List.take_append_of_le_length (by rw [cryptA_len]; omega), List.take_of_length_le (by rw [cryptA_len]; omega)]
  have e2 : (sealA key nonce aad text).drop ((sealA key nonce aad text).length - 16) = tagA key nonce aad (cryptA key nonce text) := by
    rw [hl, Nat.add_sub_cancel, sealA, List.drop_append_of_le_length (by rw [cryptA_len]; omega), List.drop_of_length_le (by rw [cryptA_len]; omega), List.nil_append]
  unfold openS
  rw [if_pos h, if_neg (by omega), if_neg (by omega), e1, e2, if_pos rfl, crypt_crypt]
end Go.Proofs.Ytpofndciepoooaa
