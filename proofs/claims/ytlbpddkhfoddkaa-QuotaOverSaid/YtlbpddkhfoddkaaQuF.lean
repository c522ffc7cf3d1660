/-
  WALKS: quota.Over, its closure, the reference's Over and plus.
-/
import Derived.Test.YtlbpddkhfoddkaaQuA
import Derived.Test.YtlbpddkhfoddkaaMem
import Derived.OneCell
import Derived.Deep.RegionWith
import Derived.Deep.QuietTactic
import Derived.BigQuiet
namespace Go.Proofs.Ytlbpddkhfoddkaa
open Go.RowKit
set_option linter.unusedVariables false

/-- a block of one int -/
def One (w : World) (b : Nat) (v : Int) : Prop := w.heap[b]? = some (.cells #[.int .i64 v] 3 (0, 0))
theorem One.cell {w : World} {b : Nat} {v : Int} (h : One w b v) : w.cell? ⟨b, 0, none⟩ = some (.int .i64 v) := cell_of_one h
theorem One.free {w : World} {b : Nat} {v : Int} (h : One w b v) : w.frozen? ⟨b, 0, none⟩ = false := free_of_one h
theorem One.set {w : World} {b : Nat} {v : Int} (h : One w b v) (u : Int) : One (w.setCell ⟨b, 0, none⟩ (.int .i64 u)) b u := one_setCell h
theorem One.far {w : World} {b c : Nat} {v : Int} (h : One w b v) (hne : b ≠ c) (u : Value) : One (w.setCell ⟨c, 0, none⟩ u) b v := (Below.heap_setCell w ⟨c, 0, none⟩ u b hne).trans h

def AddEnd (w : World) (bh bl : Nat) (h l n : Int) (e : Ending) (w' : World) : Prop :=
  e = .returned (.tuple #[]) ∧ One w' bh (h + n / 4294967296 + (l + n % 4294967296) / 4294967296) ∧ One w' bl ((l + n) % 4294967296) ∧ ∀ B, B ≤ bh → B ≤ bl → Below B w w'

theorem i64_mask32 (n : Int) : bits .and .i64 n 4294967295 = n % 4294967296 := by
  have h127 : (BitVec.ofInt 64 4294967295).toNat = 2 ^ 32 - 1 := by decide
  have key : (BitVec.ofInt 64 n &&& BitVec.ofInt 64 4294967295).toNat = (n % ((2 ^ 64 : Nat) : Int)).toNat % 2 ^ 32 := by
    rw [BitVec.toNat_and, BitVec.toNat_ofInt, h127, Nat.and_two_pow_sub_one_eq_mod]
  show IntKind.i64.wrap ((BitVec.ofInt 64 n &&& BitVec.ofInt 64 4294967295).toNat : Nat) = n % 4294967296
  rw [key, IntKind.wrap_i64]
  omega

set_option maxHeartbeats 1000000 in
theorem add_any (bh bl : Nat) (hne : bh ≠ bl) (h l n : Int) (w : World) (h1 : One w bh h) (h2 : One w bl l) (hb : -4611686018427387904 ≤ h ∧ h ≤ 4611686018427387904) (lb : 0 ≤ l ∧ l ≤ 4294967295) (nb : -9223372036854775807 - 1 ≤ n ∧ n ≤ 9223372036854775807) :
    Calls Try.prog 31 #[.int .i64 n, .pointer (some ⟨bh, 0, none⟩), .pointer (some ⟨bl, 0, none⟩)] w (AddEnd w bh bl h l n) := by
  have c1 := h1.cell
  have c2 := h2.cell
  have f1 := h1.free
  have f2 := h2.free
  have hne' : bl ≠ bh := fun e => hne e.symm
  have H1 := Lib.hid h1
  have H2 := Lib.hid h2
  have hmask := i64_mask32
  clear h1 h2
  go_enter Try.func31, Try.ntmps31
  go_wp2
  go_end0
  refine ⟨rfl, ?_, ?_, fun B hB1 hB2 => ?_⟩
  · exact ((((H1.out.set _).far hne _).set _).far hne _)
  · exact ((((H2.out.far hne' _).set _).far hne' _).set _)
  · exact ((((Below.refl _ _).setCell hB1 _).setCell hB2 _).setCell hB1 _).setCell hB2 _

/-- the sum of a charge and its snapshots, one more each -/
def sumS (zs : List Int) : Int := (zs.map (· + 1)).sum
theorem sumS_take_succ (zs : List Int) (k : Nat) (h : k < zs.length) : sumS (zs.take (k + 1)) = sumS (zs.take k) + (zs[k]?.getD 0 + 1) := by
  rw [List.take_succ_eq_append_getElem h, List.getElem?_eq_getElem h]
  simp only [sumS, List.map_append, List.sum_append, List.map_cons, List.map_nil, List.sum_cons, List.sum_nil, Option.getD_some]
  omega
theorem wf_at {zs : List Int} (hw : ∀ z ∈ zs, (Lit.int .i64 z).wf = true) (k : Nat) : -9223372036854775807 - 1 ≤ zs[k]?.getD 0 ∧ zs[k]?.getD 0 ≤ 9223372036854775807 := by
  cases h : zs[k]? with
  | none => simp
  | some z =>
    have := bounds_i64 (hw z (List.mem_of_getElem? h))
    simp
    omega
def overB (q charge : Int) (zs : List Int) : Bool := decide (q < charge + sumS zs)

/-- the state of the two counts behind k snapshots -/
def OverSt (w0 : World) (B bh bl : Nat) (charge : Int) (zs : List Int) (k : Nat) (w : World) : Prop :=
  ∃ h l : Int, One w bh h ∧ One w bl l ∧ 0 ≤ l ∧ l ≤ 4294967295 ∧ h * 4294967296 + l = charge + sumS (zs.take k) ∧
    -(4294967296 * (2 * (k : Int) + 1)) ≤ h ∧ h ≤ 4294967296 * (2 * (k : Int) + 1) ∧ Below B w0 w

theorem overSt_below {w0 : World} {B bh bl : Nat} {charge : Int} {zs : List Int} {k : Nat} {w : World} (h : OverSt w0 B bh bl charge zs k w) : Below B w0 w := by
  obtain ⟨_, _, _, _, _, _, _, _, _, hb⟩ := h
  exact hb
theorem overSt_start {w0 w1 : World} {B bh bl : Nat} {charge : Int} {zs : List Int} (h1 : One w1 bh (0 + charge / 4294967296 + (0 + charge % 4294967296) / 4294967296)) (h2 : One w1 bl ((0 + charge) % 4294967296))
    (hc : -9223372036854775807 - 1 ≤ charge ∧ charge ≤ 9223372036854775807) (hb : Below B w0 w1) : OverSt w0 B bh bl charge zs 0 w1 :=
  ⟨_, _, h1, h2, by omega, by omega, by simp [sumS]; omega, by omega, by omega, hb⟩
theorem overSt_step {w0 w3 : World} {B bh bl : Nat} {charge h l z : Int} {zs : List Int} {k : Nat}
    (h1 : One w3 bh ((h + z / 4294967296 + (l + z % 4294967296) / 4294967296) + 1 / 4294967296 + ((l + z) % 4294967296 + 1 % 4294967296) / 4294967296)) (h2 : One w3 bl (((l + z) % 4294967296 + 1) % 4294967296))
    (hs : sumS (zs.take (k + 1)) = sumS (zs.take k) + (z + 1)) (p5 : h * 4294967296 + l = charge + sumS (zs.take k)) (p3 : 0 ≤ l) (p4 : l ≤ 4294967295)
    (p6 : -(4294967296 * (2 * (k : Int) + 1)) ≤ h) (p7 : h ≤ 4294967296 * (2 * (k : Int) + 1)) (hz : -9223372036854775807 - 1 ≤ z ∧ z ≤ 9223372036854775807) (hb : Below B w0 w3) : OverSt w0 B bh bl charge zs (k + 1) w3 :=
  ⟨_, _, h1, h2, by omega, by omega, by rw [hs]; omega, by omega, by omega, hb⟩
theorem over_high {q charge h l : Int} {zs : List Int} (p5 : h * 4294967296 + l = charge + sumS zs) (p3 : 0 ≤ l) (p4 : l ≤ 4294967295) (hne : (h != q / 4294967296) = true) :
    Ending.returned (.bool (decide (q / 4294967296 < h))) = .returned (.bool (overB q charge zs)) := by
  have hne' : h ≠ q / 4294967296 := by simpa using hne
  have e : (q / 4294967296 < h) ↔ (q < charge + sumS zs) := by omega
  unfold overB
  rw [decide_eq_decide.2 e]
theorem over_low {q charge h l : Int} {zs : List Int} (p5 : h * 4294967296 + l = charge + sumS zs) (p3 : 0 ≤ l) (p4 : l ≤ 4294967295) (hne : (h != q / 4294967296) = false) :
    Ending.returned (.bool (decide (q % 4294967296 < l))) = .returned (.bool (overB q charge zs)) := by
  have hne' : h = q / 4294967296 := by simpa using hne
  have e : (q % 4294967296 < l) ↔ (q < charge + sumS zs) := by omega
  unfold overB
  rw [decide_eq_decide.2 e]

set_option maxHeartbeats 1000000 in
theorem qOver_any (q charge : Int) (A : Option Addr) (n c : Nat) (zs : List Int) (w : World) (h : IsRow .i64 w A n c zs) (hn : n ≤ 100000) (hq : -9223372036854775807 - 1 ≤ q ∧ q ≤ 9223372036854775807) (hc : -9223372036854775807 - 1 ≤ charge ∧ charge ≤ 9223372036854775807) :
    Calls Try.prog 22 #[.int .i64 q, .int .i64 charge, .slice A n c] w fun e w' => e = .returned (.bool (overB q charge zs)) ∧ Below w.heap.size w w' := by
  have hlen := h.len
  have hcap := h.capMax
  have hlc := h.lenCap
  have HWF := Lib.hid h.wf
  have H := Lib.hid h
  have HL := Lib.hid hlen
  clear h hlen
  have o1 : One ((w.alloc (.cells #[.int .i64 0] 3)).alloc (.cells #[.int .i64 0] 3)) w.heap.size 0 := (Below.heap_alloc _ _ _ (by simp)).trans (heap_alloc_new w _)
  have o2 : One ((w.alloc (.cells #[.int .i64 0] 3)).alloc (.cells #[.int .i64 0] 3)) (w.heap.size + 1) 0 := by
    have h1 := heap_alloc_new (w.alloc (.cells #[.int .i64 0] 3)) (.cells #[.int .i64 0] 3)
    have h2 : (w.alloc (.cells #[.int .i64 0] 3)).heap.size = w.heap.size + 1 := by simp
    rw [h2] at h1
    exact h1
  have b1 : Below w.heap.size w ((w.alloc (.cells #[.int .i64 0] 3)).alloc (.cells #[.int .i64 0] 3)) := ((Below.refl _ _).alloc (Nat.le_refl _) _).alloc (by simp) _
  have O1 := Lib.hid o1
  have O2 := Lib.hid o2
  have B1 := Lib.hid b1
  clear o1 o2 b1
  go_enter Try.func22, Try.ntmps22
  go_wp2_with fail
  refine (add_any _ _ (by omega) 0 0 charge _ O1.out O2.out (by omega) (by omega) hc).mono ?_
  rintro e w1 ⟨rfl, ho1, ho2, hb⟩
  have hst : OverSt w w.heap.size w.heap.size (w.heap.size + 1) charge zs 0 w1 := overSt_start ho1 ho2 hc (B1.out.trans (hb _ (Nat.le_refl _) (by omega)))
  have HST := Lib.hid hst
  clear ho1 ho2 hb hst
  go_wp2_with fail
  go_loopw [19] (fun i wr => ∃ k : Nat, k ≤ n ∧ i = .int .i64 k ∧ OverSt w w.heap.size w.heap.size (w.heap.size + 1) charge zs k wr) (fun i _ => n - (intOf i).toNat)
  case atStart => exact ⟨0, Nat.zero_le _, rfl, HST.out⟩
  case round =>
    obtain ⟨k, hk, rfl, hst⟩ := hrel
    by_cases hlt : k < n
    · obtain ⟨x, rfl, -, hx⟩ := (H.out.below (overSt_below hst)).at (by omega)
      have hck := hx k hlt
      have e0 : zs.getD k 0 = zs[k]?.getD 0 := by simp [List.getD]
      rw [e0] at hck
      have hzb := wf_at HWF.out k
      have hs := sumS_take_succ zs k (by rw [HL.out]; exact hlt)
      obtain ⟨h, l, p1, p2, p3, p4, p5, p6, p7, p8⟩ := hst
      clear e0 hx
      generalize zs[k]?.getD 0 = z at hck hzb hs
      have HS := Lib.hid hs
      have P1 := Lib.hid p1
      have P2 := Lib.hid p2
      have P5 := Lib.hid p5
      have P8 := Lib.hid p8
      clear hs p1 p2 p5 p8
      go_wp2_with fail
      refine (add_any _ _ (by omega) h l z _ P1.out P2.out (by omega) (by omega) hzb).mono ?_
      rintro e w2 ⟨rfl, ho1, ho2, hb⟩
      have Q1 := Lib.hid ho1
      have Q2 := Lib.hid ho2
      have QB := Lib.hid (hb w.heap.size (Nat.le_refl _) (by omega))
      clear ho1 ho2 hb
      go_wp2_with fail
      refine (add_any _ _ (by omega) _ _ 1 _ Q1.out Q2.out (by omega) (by omega) (by omega)).mono ?_
      rintro e w3 ⟨rfl, ho1, ho2, hb⟩
      have hst' : OverSt w w.heap.size w.heap.size (w.heap.size + 1) charge zs (k + 1) w3 := overSt_step ho1 ho2 HS.out P5.out p3 p4 p6 p7 hzb ((P8.out.trans QB.out).trans (hb _ (Nat.le_refl _) (by omega)))
      have HST' := Lib.hid hst'
      clear ho1 ho2 hb hst'
      go_wp2
      go_roundw
      case rel => exact ⟨k + 1, by omega, by go_num, HST'.out⟩
      case measure => simp [intOf]; omega
    · obtain ⟨h, l, p1, p2, p3, p4, p5, p6, p7, p8⟩ := hst
      have e1 : zs.take k = zs := List.take_of_length_le (by rw [HL.out]; omega)
      rw [e1] at p5
      have c1 := p1.cell
      have c2 := p2.cell
      have hmask := i64_mask32
      have P5 := Lib.hid p5
      have P8 := Lib.hid p8
      clear p1 p2 p5 p8 e1
      go_wp2
      all_goals go_ret
      · exact ⟨over_high P5.out p3 p4 ‹_›, P8.out⟩
      · exact ⟨over_low P5.out p3 p4 ‹_›, P8.out⟩

/-- the two halves of a wide sum -/
def PlusEnd (w : World) (hi lo n : Int) (e : Ending) (w' : World) : Prop :=
  ∃ hi' lo' : Int, e = .returned (.agg #[.int .i64 hi', .int .u64 lo']) ∧ hi' * 18446744073709551616 + lo' = hi * 18446744073709551616 + lo + n ∧ 0 ≤ lo' ∧ lo' ≤ 18446744073709551615 ∧ hi - 1 ≤ hi' ∧ hi' ≤ hi + 1 ∧ Below w.heap.size w w'

set_option maxHeartbeats 1000000 in
theorem plus_any (hi lo n : Int) (w : World) (hh : -4611686018427387904 ≤ hi ∧ hi ≤ 4611686018427387904) (hl0 : 0 ≤ lo) (hl1 : lo ≤ 18446744073709551615) (hn : -9223372036854775807 - 1 ≤ n ∧ n ≤ 9223372036854775807) :
    Calls Try.prog 32 #[.agg #[.int .i64 hi, .int .u64 lo], .int .i64 n] w (PlusEnd w hi lo n) := by
  go_enter Try.func32, Try.ntmps32
  go_wp2
  · have hneg : n < 0 := by assumption
    have hlow : IntKind.u64.wrap (lo + IntKind.u64.wrap n) < lo := by assumption
    refine bodyPost_ret (v := .agg #[.int .i64 hi, .int .u64 (IntKind.u64.wrap (lo + IntKind.u64.wrap n))]) (by simp [results, Try.results32, go_sem]) rfl ⟨_, _, rfl, ?_⟩
    simp only [IntKind.wrap_u64] at hlow ⊢
    exact ⟨by omega, by omega, by omega, by omega, by omega, ((Below.refl _ _).alloc (Nat.le_refl _) _).alloc (by simp) _⟩
  · have hneg : n < 0 := by assumption
    have hlow : lo ≤ IntKind.u64.wrap (lo + IntKind.u64.wrap n) := by assumption
    refine bodyPost_ret (v := .agg #[.int .i64 (hi - 1), .int .u64 (IntKind.u64.wrap (lo + IntKind.u64.wrap n))]) (by simp [results, Try.results32, go_sem]) rfl ⟨_, _, rfl, ?_⟩
    simp only [IntKind.wrap_u64] at hlow ⊢
    exact ⟨by omega, by omega, by omega, by omega, by omega, ((Below.refl _ _).alloc (Nat.le_refl _) _).alloc (by simp) _⟩
  · have hneg : 0 ≤ n := by assumption
    have hlow : IntKind.u64.wrap (lo + n) < lo := by assumption
    refine bodyPost_ret (v := .agg #[.int .i64 (hi + 1), .int .u64 (IntKind.u64.wrap (lo + n))]) (by simp [results, Try.results32, go_sem]) rfl ⟨_, _, rfl, ?_⟩
    simp only [IntKind.wrap_u64] at hlow ⊢
    exact ⟨by omega, by omega, by omega, by omega, by omega, ((Below.refl _ _).alloc (Nat.le_refl _) _).alloc (by simp) _⟩
  · have hneg : 0 ≤ n := by assumption
    have hlow : lo ≤ IntKind.u64.wrap (lo + n) := by assumption
    refine bodyPost_ret (v := .agg #[.int .i64 hi, .int .u64 (IntKind.u64.wrap (lo + n))]) (by simp [results, Try.results32, go_sem]) rfl ⟨_, _, rfl, ?_⟩
    simp only [IntKind.wrap_u64] at hlow ⊢
    exact ⟨by omega, by omega, by omega, by omega, by omega, ((Below.refl _ _).alloc (Nat.le_refl _) _).alloc (by simp) _⟩

end Go.Proofs.Ytlbpddkhfoddkaa
