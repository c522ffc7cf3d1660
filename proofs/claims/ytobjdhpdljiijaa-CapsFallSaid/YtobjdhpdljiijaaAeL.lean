/-
  WALKS: Encrypt and Decrypt.
-/
import Derived.Test.YtobjdhpdljiijaaAeK
import Derived.Test.YtobjdhpdljiijaaCtC
import Derived.Outline
import Derived.Deep.RegionHeld3
import Derived.Deep.DeepCutAuto
namespace Go.Proofs.Ytobjdhpdljiijaa
open Go.RowKit
set_option linter.unusedVariables false

/-! the rounds -/
def mixIf (b : Bool) (s : List Nat) : List Nat := if b then colK mix s else s
def unmixIf (b : Bool) (s : List Nat) : List Nat := if b then colK unmix s else s
def rndE (W : List Nat) (R j : Nat) (s : List Nat) : List Nat := addK (mixIf (decide (j < R)) (shiftK 1 (eachK sbox s))) W (16 * j)
def encTo (W : List Nat) (R : Nat) (s : List Nat) : Nat → List Nat
  | 0 => addK s W 0
  | j + 1 => rndE W R (j + 1) (encTo W R s j)
def encK (W : List Nat) (R : Nat) (s : List Nat) : List Nat := encTo W R s R
def rndD (W : List Nat) (R j : Nat) (s : List Nat) : List Nat := eachK sinv (shiftK 3 (unmixIf (decide (j < R)) (addK s W (16 * j))))
def decTo (W : List Nat) (R : Nat) (s : List Nat) : Nat → List Nat
  | 0 => s
  | k + 1 => rndD W R (R - k) (decTo W R s k)
def decK (W : List Nat) (R : Nat) (s : List Nat) : List Nat := addK (decTo W R s R) W 0
theorem mixIf_len (b : Bool) (s : List Nat) (h : s.length = 16) : (mixIf b s).length = 16 := by unfold mixIf; split <;> simp [colK_len, h]
theorem mixIf_byt {b : Bool} {s : List Nat} (h : Byt s) : Byt (mixIf b s) := by unfold mixIf; split; exact colK_byt mix_byt; exact h
theorem unmixIf_len (b : Bool) (s : List Nat) (h : s.length = 16) : (unmixIf b s).length = 16 := by unfold unmixIf; split <;> simp [colK_len, h]
theorem unmixIf_byt {b : Bool} {s : List Nat} (h : Byt s) : Byt (unmixIf b s) := by unfold unmixIf; split; exact colK_byt unmix_byt; exact h
theorem encTo_len (W : List Nat) (R : Nat) (s : List Nat) : ∀ j, (encTo W R s j).length = 16
  | 0 => addK_len _ _ _
  | j + 1 => addK_len _ _ _
theorem encTo_byt {W : List Nat} {R : Nat} {s : List Nat} (hW : Byt W) (hs : Byt s) : ∀ j, Byt (encTo W R s j)
  | 0 => addK_byt hs hW _
  | j + 1 => addK_byt (mixIf_byt (shiftK_byt (eachK_byt (encTo_byt hW hs j) sbox_lt))) hW _
theorem decTo_len (W : List Nat) (R : Nat) (s : List Nat) (h : s.length = 16) : ∀ j, (decTo W R s j).length = 16
  | 0 => h
  | j + 1 => eachK_len _ _
theorem decTo_byt {W : List Nat} {R : Nat} {s : List Nat} (hW : Byt W) (hs : Byt s) : ∀ j, Byt (decTo W R s j)
  | 0 => hs
  | j + 1 => eachK_byt (shiftK_byt (unmixIf_byt (addK_byt (decTo_byt hW hs j) hW _))) sinv_lt
theorem encK_len (W : List Nat) (R : Nat) (s : List Nat) : (encK W R s).length = 16 := encTo_len W R s R
theorem encK_byt {W : List Nat} {R : Nat} {s : List Nat} (hW : Byt W) (hs : Byt s) : Byt (encK W R s) := encTo_byt hW hs R
theorem decK_len (W : List Nat) (R : Nat) (s : List Nat) : (decK W R s).length = 16 := addK_len _ _ _
theorem decK_byt {W : List Nat} {R : Nat} {s : List Nat} (hW : Byt W) (hs : Byt s) : Byt (decK W R s) := addK_byt (decTo_byt hW hs R) hW 0

/-! memory -/
end Go.Proofs.Ytobjdhpdljiijaa
