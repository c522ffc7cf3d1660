/-
  WALKS: the reference's Crypt (ref05).
-/
import Derived.Test.YtobjdhpdljiijaaCtG
namespace Go.Proofs.Ytobjdhpdljiijaa
open Go.RowKit
set_option linter.unusedVariables false

theorem Bk.kept {w w' : World} {b : Nat} {t : TypeId} {l : List Nat} (h : Bk w b t l) {row : Option Nat} (hg : w.grownBy w' row) (hne : some b ≠ row) : Bk w' b t l := (hg.block b h.lt hne).trans h
section
variable {B0 gc : Nat} {w0 w w' : World} {v : Value} {at_ blk out : List Nat}
theorem OwB.rowFar (h : OwB w B0 v out) {c : Nat} (hne : ApartB v c) (cs : Array Value) : OwB (w.setRow c cs) B0 v out :=
  ⟨⟨h.own.1, by
    rcases h.own.2 with hn | ⟨g, cap, cur, rfl, hb', hgg, rest⟩
    · exact .inl hn
    · exact .inr ⟨g, cap, cur, rfl, hb', (setRow_other w c g cs (hne g rfl)).trans hgg, rest⟩⟩, h.byt⟩
end
theorem crypt_snoc {key nonce text : List Nat} {i : Nat} (hi : i < text.length) : (cryptA key nonce text).take (i + 1) = (cryptA key nonce text).take i ++ [at' text i ^^^ ksB key (firstC nonce) i] := by
  rw [take_snoc' (by rw [cryptA_len]; exact hi), cryptA_at hi]
theorem blkS_more {key first : List Nat} {i : Nat} (h : i % 16 ≠ 0) : blkS key first (i + 1) = blkS key first i := by
  rw [blkS_next, atS_more h]
  exact (if_neg (by intro h0; rw [h0] at h; exact h rfl)).symm

end Go.Proofs.Ytobjdhpdljiijaa
