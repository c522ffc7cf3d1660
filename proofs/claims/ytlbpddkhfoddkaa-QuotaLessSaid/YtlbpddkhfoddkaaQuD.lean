/-
  WALK: QuotaFits returns true.
-/
import Derived.Test.YtlbpddkhfoddkaaQuC
import Derived.Test.YtlbpddkhfoddkaaMem
import Derived.Deep.QuietTactic
import Derived.BigQuiet
namespace Go.Proofs.Ytlbpddkhfoddkaa
open Go.RowKit

theorem fitsEnd_form (blocks : Int) (zs : List Int) : ∃ (b : Bool) (q : Int), ∀ e, FitsEnd blocks zs e → e = .returned (.tuple #[.bool b, .int .i64 q]) := by
  by_cases h : zs.length ≤ 64 ∧ allQ zs = true
  · exact ⟨_, _, fun e he => by unfold FitsEnd at he; rw [if_pos h] at he; exact he⟩
  · exact ⟨_, _, fun e he => by unfold FitsEnd at he; rw [if_neg h] at he; exact he⟩

set_option maxHeartbeats 2000000 in
theorem fits_any (blocks : Int) (A : Option Addr) (n c : Nat) (zs : List Int) (w : World) (h : IsRow .i64 w A n c zs) (hreach : n * 8 ≤ 140737488351232) :
    Calls Try.prog 7 #[.int .i64 blocks, .slice A n c] w fun e w' => e = .returned (.bool true) ∧ Below w.heap.size w w' := by
  obtain ⟨i0, hi, hz0, hz1, hz2⟩ := info_parts infoI64
  obtain ⟨b, q, hform⟩ := fitsEnd_form blocks zs
  have hl := Lib.hid h.len
  have hcap := h.capMax
  have hlc := h.lenCap
  have H := Lib.hid h
  have HF := Lib.hid hform
  have hw : ∀ z ∈ zs ++ [77], (Lit.int .i64 z).wf = true := by
    intro z hz
    simp only [List.mem_append, List.mem_singleton] at hz
    rcases hz with hz | rfl
    · exact h.wf z hz
    · decide
  have HW := Lib.hid hw
  clear h hform hw
  go_enter Try.func7, Try.ntmps7
  go_wp2_with first
    | (at_builtin; refine wpList_app _ rfl (.tmp 11) (.tmp 12) rfl w.heap.size Try.underlying37 hi hz0 hz1 hz2 rfl (zs := []) (k := .i64) rfl (own_lit w 3 .i64 w.heap.size (Nat.le_refl _) [] (Nat.zero_le _)) rfl (H.out.alloc _) (by simp only [maxLen, List.length_nil]; omega) (by simp only [List.length_nil]; omega) (by simp) ?_; intro v1 w1 hown1 hb1 hg1 hat1; rw [List.nil_append, hl.out] at hown1)
    | (at_builtin; go_loud (refine wpList_app_pos _ rfl (.tmp 13) (.tmp 14) rfl w.heap.size Try.underlying37 hi hz0 hz1 hz2 rfl (v := v1) (zs := zs) (k := .i64) hl.out rfl (hown1.alloc _) rfl (isRow_lit w1 3 .i64 [77] 1 rfl (by simp [maxLen]) (by decide)) (by simp only [maxLen]; omega) (by omega) (by have := hg1.size; simp at this ⊢; omega) (by omega) ?_); intro g cap w2 hown2 hgB hgs hc2 hm2 hb2 hg2 hat2)
  have hb0 : Below w.heap.size w w1 := ((Below.refl _ _).alloc (Nat.le_refl _) _).trans hb1
  have hb : Below w.heap.size w w2 := (hb0.alloc hb0.size _).trans hb2
  have hin : IsRow .i64 w2 (some ⟨g, 0, none⟩) n cap zs := by
    have h3 := (isRow_own hown2 HW.out).take (m := n) (by omega)
    have e : (zs ++ [77]).take n = zs := by rw [← hl.out]; simp
    rw [e] at h3
    exact h3
  have hsrc := H.out.below hb
  have h77 : w2.cell? ⟨g, n, none⟩ = some (.int .i64 77) := by
    rw [own_at hown2 (by omega)]
    simp [List.getD, ← hl.out]
  have hcs1 : ∀ k, k < n → w2.cell? ⟨g, k, none⟩ = some (.int .i64 (zs.getD k 0)) := by
    intro k hk
    rw [own_at hown2 (by omega)]
    have : k < zs.length := by rw [hl.out]; exact hk
    simp [List.getD, List.getElem?_append_left this]
  have HB := Lib.hid hb
  have HI := Lib.hid hin
  have HS := Lib.hid hsrc
  have HC := Lib.hid hcs1
  clear hb hb0 hb1 hb2 hin hsrc hcs1 hown1 hown2 hg1 hg2 hat1 hat2
  refine (qFits_any blocks _ _ _ zs _ HI.out).mono ?_; rintro e w' ⟨he, rfl⟩
  have he' := HF.out _ he
  subst he'
  clear he
  go_wp2_with fail
  refine (rFits_any blocks _ _ _ zs _ HS.out).mono ?_; rintro e w' ⟨he, rfl⟩
  have he' := HF.out _ he
  subst he'
  clear he
  go_wp2
  go_loopw [10] (fun i wr => ∃ k : Nat, k ≤ n ∧ i = .int .i64 k ∧ ∃ m, wr = w2.drewN m) (fun i _ => n - (intOf i).toNat)
  case atStart => exact ⟨0, Nat.zero_le _, rfl, 0, rfl⟩
  case round =>
    obtain ⟨k, hk, rfl, m, rfl⟩ := hrel
    by_cases hlt : k < n
    · obtain ⟨x, rfl, -, hx⟩ := HS.out.at (by omega)
      have c1 := HC.out k hlt
      have c2 := hx k hlt
      clear hx
      go_wp2
      go_quiet (fail)
      go_wp2
      go_roundw
      case rel => exact ⟨k + 1, by omega, by go_num, _, rfl⟩
      case measure => simp [intOf]; omega
    · go_wp2_with (go_at_call 11; refine (known_any _).mono ?_; rintro e w' ⟨rfl, hb⟩)
      go_ret
      exact ⟨rfl, (below_dn HB.out _).trans (hb.mono HB.out.size)⟩

theorem fits_walk (blocks : Int) (A : Option Addr) (n c : Nat) (zs : List Int) (w : World) (_ : (Lit.int .i64 blocks).wf = true) (h : IsRow .i64 w A n c zs) (hreach : c * 8 ≤ 140737488351232) :
    Calls Try.prog 7 #[.int .i64 blocks, .slice A n c] w fun e w' => e = .returned (.bool true) ∧ Below w.heap.size w w' :=
  fits_any blocks A n c zs w h (by have := h.lenCap; omega)

end Go.Proofs.Ytlbpddkhfoddkaa
