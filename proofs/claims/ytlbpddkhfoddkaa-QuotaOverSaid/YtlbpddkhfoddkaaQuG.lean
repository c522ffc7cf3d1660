/-
  WALKS: the reference's Over; QuotaOver returns true.
-/
import Derived.Test.YtlbpddkhfoddkaaQuF
namespace Go.Proofs.Ytlbpddkhfoddkaa
open Go.RowKit
set_option linter.unusedVariables false

/-- a block that holds a wide number -/
def Wide (w : World) (b : Nat) (hi lo : Int) : Prop := w.heap[b]? = some (.cells #[.int .i64 hi, .int .u64 lo] 56 (0, 0))
theorem Wide.c0 {w : World} {b : Nat} {hi lo : Int} (h : Wide w b hi lo) : w.cell? ⟨b, 0, none⟩ = some (.int .i64 hi) := by simp only [Wide] at h; simp [World.cell?, h]
theorem Wide.c1 {w : World} {b : Nat} {hi lo : Int} (h : Wide w b hi lo) : w.cell? ⟨b, 1, none⟩ = some (.int .u64 lo) := by simp only [Wide] at h; simp [World.cell?, h]
theorem Wide.free {w : World} {b : Nat} {hi lo : Int} (h : Wide w b hi lo) (i : Nat) : w.frozen? ⟨b, i, none⟩ = false := by simp only [Wide] at h; simp [World.frozen?, h]
theorem Wide.lt {w : World} {b : Nat} {hi lo : Int} (h : Wide w b hi lo) : b < w.heap.size := lt_of_block h
theorem Wide.below {w w' : World} {B b : Nat} {hi lo : Int} (h : Wide w b hi lo) (hb : Below B w w') (hB : b < B) : Wide w' b hi lo := (hb.block b hB).trans h

def WideSt (w0 : World) (b : Nat) (charge : Int) (zs : List Int) (k : Nat) (w : World) : Prop :=
  ∃ h l : Int, Wide w b h l ∧ 0 ≤ l ∧ l ≤ 18446744073709551615 ∧ h * 18446744073709551616 + l = charge + sumS (zs.take k) ∧ -(2 * (k : Int) + 1) ≤ h ∧ h ≤ 2 * (k : Int) + 1 ∧ Below w0.heap.size w0 w
theorem wideSt_below {w0 : World} {b : Nat} {charge : Int} {zs : List Int} {k : Nat} {w : World} (h : WideSt w0 b charge zs k w) : Below w0.heap.size w0 w := by
  obtain ⟨_, _, _, _, _, _, _, _, hb⟩ := h
  exact hb

theorem over_wide {q charge h l hi2 lo2 : Int} {zs : List Int} {b : Bool} (p5 : h * 18446744073709551616 + l = charge + sumS zs) (he2 : hi2 * 18446744073709551616 + lo2 = 0 * 18446744073709551616 + 0 + q) (p3 : 0 ≤ l) (p4 : l ≤ 18446744073709551615)
    (hl2 : 0 ≤ lo2) (hm2 : lo2 ≤ 18446744073709551615) (hb : b = decide (hi2 < h ∨ (h = hi2 ∧ lo2 < l))) : Ending.returned (.bool b) = .returned (.bool (overB q charge zs)) := by
  have e : (hi2 < h ∨ (h = hi2 ∧ lo2 < l)) ↔ (q < charge + sumS zs) := by omega
  rw [hb]
  unfold overB
  rw [decide_eq_decide.2 e]

theorem wideSt_step {w0 w3 : World} {b : Nat} {charge h l z hi2 lo2 hi3 lo3 : Int} {zs : List Int} {k : Nat} (r3 : Wide w3 b h l)
    (he3 : hi3 * 18446744073709551616 + lo3 = hi2 * 18446744073709551616 + lo2 + 1) (he2 : hi2 * 18446744073709551616 + lo2 = h * 18446744073709551616 + l + z)
    (hs : sumS (zs.take (k + 1)) = sumS (zs.take k) + (z + 1)) (p5 : h * 18446744073709551616 + l = charge + sumS (zs.take k)) (hl3 : 0 ≤ lo3) (hm3 : lo3 ≤ 18446744073709551615)
    (hh2 : h - 1 ≤ hi2) (hg2 : hi2 ≤ h + 1) (hh3 : hi2 - 1 ≤ hi3) (hg3 : hi3 ≤ hi2 + 1) (p6 : -(2 * (k : Int) + 1) ≤ h) (p7 : h ≤ 2 * (k : Int) + 1) (hb : Below w0.heap.size w0 w3) (hB : w0.heap.size ≤ b) :
    WideSt w0 b charge zs (k + 1) ((w3.setCell ⟨b, 0, none⟩ (.int .i64 hi3)).setCell ⟨b, 1, none⟩ (.int .u64 lo3)) := by
  refine ⟨hi3, lo3, ?_, hl3, hm3, by rw [hs]; omega, by omega, by omega, (hb.setCell hB _).setCell hB _⟩
  have h1 := heap_setCell_same w3 b 0 _ _ (.int .i64 hi3) r3
  have h2 := heap_setCell_same (w3.setCell ⟨b, 0, none⟩ (.int .i64 hi3)) b 1 _ _ (.int .u64 lo3) h1
  exact h2

set_option maxHeartbeats 1000000 in
theorem rOver_any (q charge : Int) (A : Option Addr) (n c : Nat) (zs : List Int) (w : World) (h : IsRow .i64 w A n c zs) (hn : n ≤ 100000) (hq : -9223372036854775807 - 1 ≤ q ∧ q ≤ 9223372036854775807) (hc : -9223372036854775807 - 1 ≤ charge ∧ charge ≤ 9223372036854775807) :
    Calls Try.prog 23 #[.int .i64 q, .int .i64 charge, .slice A n c] w fun e w' => e = .returned (.bool (overB q charge zs)) ∧ Below w.heap.size w w' := by
  have hlen := h.len
  have hcap := h.capMax
  have hlc := h.lenCap
  have HWF := Lib.hid h.wf
  have H := Lib.hid h
  have HL := Lib.hid hlen
  clear h hlen
  go_enter Try.func23, Try.ntmps23
  go_wp2_with fail
  refine (plus_any 0 0 charge _ (by omega) (by omega) (by omega) hc).mono ?_
  rintro e w1 ⟨hi, lo, rfl, he, hl0, hl1, hh0, hh1, hb⟩
  have hst : WideSt w w1.heap.size charge zs 0 (w1.alloc (.cells #[.int .i64 hi, .int .u64 lo] 56)) :=
    ⟨hi, lo, heap_alloc_new w1 _, hl0, hl1, by simp [sumS]; omega, by omega, by omega, hb.alloc hb.size _⟩
  have hsz := hb.size
  have HST := Lib.hid hst
  clear he hb hst
  go_wp2_with fail
  go_loopw [8] (fun i wr => ∃ k : Nat, k ≤ n ∧ i = .int .i64 k ∧ WideSt w w1.heap.size charge zs k wr) (fun i _ => n - (intOf i).toNat)
  case atStart => exact ⟨0, Nat.zero_le _, rfl, HST.out⟩
  case round =>
    obtain ⟨k, hk, rfl, hst⟩ := hrel
    by_cases hlt : k < n
    · obtain ⟨x, rfl, -, hx⟩ := (H.out.below (wideSt_below hst)).at (by omega)
      have hck := hx k hlt
      have e0 : zs.getD k 0 = zs[k]?.getD 0 := by simp [List.getD]
      rw [e0] at hck
      have hzb := wf_at HWF.out k
      have hs := sumS_take_succ zs k (by rw [HL.out]; exact hlt)
      obtain ⟨h, l, p1, p3, p4, p5, p6, p7, p8⟩ := hst
      clear e0 hx
      generalize zs[k]?.getD 0 = z at hck hzb hs
      have c0 := p1.c0
      have c1 := p1.c1
      have f0 := p1.free 0
      have f1 := p1.free 1
      have HS := Lib.hid hs
      have P1 := Lib.hid p1
      have P5 := Lib.hid p5
      have P8 := Lib.hid p8
      clear hs p1 p5 p8
      go_wp2_with fail
      go_region_with (first
        | (go_at_call_of 32 z; refine (plus_any h l z _ (by omega) (by omega) (by omega) hzb).mono ?_; rintro e w2 ⟨hi2, lo2, rfl, he2, hl2, hm2, hh2, hg2, hb2⟩; have HE2 := Lib.hid he2; have HB2 := Lib.hid hb2; clear he2 hb2)
        | (go_at_call 32; refine (plus_any hi2 lo2 1 _ (by omega) (by omega) (by omega) (by omega)).mono ?_; rintro e w3 ⟨hi3, lo3, rfl, he3, hl3, hm3, hh3, hg3, hb3⟩; have HE3 := Lib.hid he3; have HB3 := Lib.hid hb3; clear he3 hb3; have r1 : Wide wr.drew w1.heap.size h l := P1.out; have r2 : Wide w2 w1.heap.size h l := r1.below HB2.out r1.lt; have r3 := r2.below HB3.out r2.lt; have d0 := r3.c0; have d1 := r3.c1; have g0 := r3.free 0; have g1 := r3.free 1; have R3 := Lib.hid r3; clear r1 r2 r3))
      all_goals
        have hst' := wideSt_step R3.out HE3.out HE2.out HS.out P5.out hl3 hm3 hh2 hg2 hh3 hg3 p6 p7 (((P8.out.drew).trans (HB2.out.mono P8.out.size)).trans (HB3.out.mono (Nat.le_trans P8.out.size HB2.out.size))) hsz
        have HST' := Lib.hid hst'
        clear hst'
        go_wp2
        go_roundw
        case rel => exact ⟨k + 1, by omega, by go_num, HST'.out⟩
        case measure => simp [intOf]; omega
    · obtain ⟨h, l, p1, p3, p4, p5, p6, p7, p8⟩ := hst
      have e1 : zs.take k = zs := List.take_of_length_le (by rw [HL.out]; omega)
      rw [e1] at p5
      have P1 := Lib.hid p1
      have P5 := Lib.hid p5
      have P8 := Lib.hid p8
      clear p1 p5 p8 e1
      go_wp2_with fail
      refine (plus_any 0 0 q _ (by omega) (by omega) (by omega) hq).mono ?_
      rintro e w2 ⟨hi2, lo2, rfl, he2, hl2, hm2, hh2, hg2, hb2⟩
      have r2 : Wide w2 w1.heap.size h l := P1.out.below hb2 P1.out.lt
      have hlt2 := r2.lt
      have r3 : Wide (w2.alloc (.cells #[.int .i64 hi2, .int .u64 lo2] 56)) w1.heap.size h l := r2.below ((Below.refl _ _).alloc (Nat.le_refl _) _) r2.lt
      have r4 : Wide (w2.alloc (.cells #[.int .i64 hi2, .int .u64 lo2] 56)) w2.heap.size hi2 lo2 := heap_alloc_new w2 _
      have c0 := r3.c0
      have c1 := r3.c1
      have d0 := r4.c0
      have d1 := r4.c1
      have HE2 := Lib.hid he2
      have HB2 := Lib.hid hb2
      clear he2 hb2 r2 r3 r4
      have hbel : Below w.heap.size w (w2.alloc (.cells #[.int .i64 hi2, .int .u64 lo2] 56)) := (P8.out.trans (HB2.out.mono P8.out.size)).alloc (Nat.le_trans P8.out.size HB2.out.size) _
      have HBEL := Lib.hid hbel
      clear hbel
      rcases Int.lt_trichotomy hi2 h with g1 | g1 | g1
      · go_wp2
        go_ret
        exact ⟨over_wide P5.out HE2.out p3 p4 hl2 hm2 (by simp [g1]), HBEL.out⟩
      · have G1 := Lib.hid g1
        subst g1
        go_wp2
        go_ret
        exact ⟨over_wide P5.out HE2.out p3 p4 hl2 hm2 (by simp), HBEL.out⟩
      · have g2 : ¬ hi2 < h := by omega
        have g3 : (h == hi2) = false := by simp; omega
        go_wp2
        go_ret
        exact ⟨over_wide P5.out HE2.out p3 p4 hl2 hm2 (by simp; omega), HBEL.out⟩

set_option maxHeartbeats 1000000 in
theorem over_any (q charge : Int) (A : Option Addr) (n c : Nat) (zs : List Int) (w : World) (hq0 : (Lit.int .i64 q).wf = true) (hc0 : (Lit.int .i64 charge).wf = true) (h : IsRow .i64 w A n c zs) (_ : c * 8 ≤ 140737488351232) :
    Calls Try.prog 6 #[.int .i64 q, .int .i64 charge, .slice A n c] w fun e w' => e = .returned (.bool true) ∧ Below w.heap.size w w' := by
  have hq := bounds_i64 hq0
  have hc := bounds_i64 hc0
  have hq' : -9223372036854775807 - 1 ≤ q ∧ q ≤ 9223372036854775807 := by omega
  have hc' : -9223372036854775807 - 1 ≤ charge ∧ charge ≤ 9223372036854775807 := by omega
  have hcap := h.capMax
  have hlc := h.lenCap
  have H := Lib.hid h
  clear h hq hc hq0 hc0
  by_cases hn : n ≤ 100000
  · go_enter Try.func6, Try.ntmps6
    go_wp2_with fail
    refine (qOver_any q charge _ _ _ zs _ H.out hn hq' hc').mono ?_
    rintro e w1 ⟨rfl, hb1⟩
    have HB1 := Lib.hid hb1
    clear hb1
    go_wp2_with fail
    refine (rOver_any q charge _ _ _ zs _ (H.out.below HB1.out) hn hq' hc').mono ?_
    rintro e w2 ⟨rfl, hb2⟩
    have HB2 := Lib.hid (HB1.out.trans (hb2.mono HB1.out.size))
    clear hb2
    go_wp2_with fail
    refine (known_any _).mono ?_
    rintro e w3 ⟨rfl, hb3⟩
    have HB3 := Lib.hid (HB2.out.trans (hb3.mono HB2.out.size))
    clear hb3
    go_wp2
    go_ret
    exact ⟨rfl, HB3.out⟩
  · go_enter Try.func6, Try.ntmps6
    go_wp2_with (go_at_call 11; refine (known_any _).mono ?_; rintro e w' ⟨rfl, hb⟩)
    go_ret
    exact ⟨rfl, hb⟩

end Go.Proofs.Ytlbpddkhfoddkaa
