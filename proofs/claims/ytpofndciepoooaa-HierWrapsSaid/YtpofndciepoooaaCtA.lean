/-
  WALKS: octet.Get and Put, the reference's Number and Of: numbers as bytes, the highest first.
-/
import Derived.Test.YtpofndciepoooaaOwb
namespace Go.Proofs.Ytpofndciepoooaa
open Go.RowKit
set_option linter.unusedVariables false

def numB (l : List Nat) : Nat := l.foldl (fun n x => 256 * n + x) 0
/-- so many bytes of a number, the highest first -/
def digB (n : Nat) : Nat → List Nat
  | 0 => []
  | k + 1 => digB (n / 256) k ++ [n % 256]
theorem digB_len (n : Nat) : ∀ k, (digB n k).length = k
  | 0 => rfl
  | k + 1 => by simp [digB, digB_len (n / 256) k]
theorem digB_byt (n : Nat) : ∀ k, Byt (digB n k)
  | 0 => fun x hx => by cases hx
  | k + 1 => byt_app (digB_byt (n / 256) k) (fun x hx => by simp at hx; omega)
theorem numB_snoc (l : List Nat) (x : Nat) : numB (l ++ [x]) = 256 * numB l + x := by simp [numB]
theorem numB_lt {l : List Nat} (hl : Byt l) : numB l < 256 ^ l.length := by
  have key : ∀ (k : Nat) (l : List Nat), l.length = k → Byt l → numB l < 256 ^ k := by
    intro k
    induction k with
    | zero =>
      intro l hk _
      rw [List.eq_nil_of_length_eq_zero hk]
      simp [numB]
    | succ k ih =>
      intro l hk hb
      obtain ⟨m, x, rfl⟩ : ∃ m x, l = m ++ [x] := ⟨l.dropLast, l.getLast (by intro h; rw [h] at hk; simp at hk), (List.dropLast_concat_getLast _).symm⟩
      have h1 := ih m (by simpa using hk) (fun y hy => hb y (by simp [hy]))
      have h2 := hb x (by simp)
      rw [numB_snoc, Nat.pow_succ]
      omega
  exact key _ l rfl hl
theorem numB_digB (n : Nat) : ∀ k, n < 256 ^ k → numB (digB n k) = n
  | 0, h => by simp at h; subst h; rfl
  | k + 1, h => by
    rw [Nat.pow_succ] at h
    rw [digB, numB_snoc, numB_digB (n / 256) k (by omega)]
    omega
theorem wrap_u64' {n : Nat} (hn : n < 2 ^ 64) (z : Int) (h0 : 0 ≤ z) (h : z ≤ n) : IntKind.u64.wrap z = z := by
  show z % 18446744073709551616 = z
  omega
theorem or_u64 (a b : Nat) (ha : a < 2 ^ 64) (hb : b < 2 ^ 64) : bits .or .u64 (a : Int) (b : Int) = ((a ||| b : Nat) : Int) := by
  have h : a ||| b < 2 ^ 64 := Nat.or_lt_two_pow ha hb
  show IntKind.u64.wrap ((BitVec.ofInt 64 (a : Int) ||| BitVec.ofInt 64 (b : Int)).toNat : Int) = _
  rw [BitVec.toNat_or, BitVec.ofInt_natCast, BitVec.ofInt_natCast, BitVec.toNat_ofNat, BitVec.toNat_ofNat, Nat.mod_eq_of_lt ha, Nat.mod_eq_of_lt hb]
  exact wrap_u64' h _ (Int.natCast_nonneg _) (Int.le_refl _)
theorem or_byte (m x : Nat) (hm : m < 72057594037927936) (hx : x < 256) : bits .or .u64 ((m : Int) * 256) (x : Int) = ((256 * m + x : Nat) : Int) := by
  have := or_u64 (m * 256) x (by omega) (by omega)
  rw [Int.natCast_mul] at this
  refine this.trans ?_
  have h2 := Nat.shiftLeft_add_eq_or_of_lt (a := m) (b := x) (i := 8) hx
  rw [Nat.shiftLeft_eq] at h2
  rw [← h2, Nat.mul_comm]
theorem take_snoc' {l : List Nat} {p : Nat} (h : p < l.length) : l.take (p + 1) = l.take p ++ [at' l p] := by
  rw [List.take_succ_eq_append_getElem h]
  simp [at', List.getElem?_eq_getElem h]
theorem numB_take {l : List Nat} (hl : Byt l) (hn : l.length ≤ 8) {p : Nat} (h : p < l.length) : numB (l.take p) < 72057594037927936 := by
  have hb : Byt (l.take p) := fun x hx => hl x (List.mem_of_mem_take hx)
  have h1 := numB_lt hb
  have h2 : (l.take p).length ≤ 7 := by rw [List.length_take]; omega
  exact Nat.lt_of_lt_of_le h1 (Nat.pow_le_pow_right (n := 256) (by omega) h2)

set_option maxRecDepth 100000 in
set_option maxHeartbeats 1000000 in
theorem get_any (g o : Nat) (n c : Nat) (l : List Nat) (w : World) (hc : ∀ i, i < n → w.cell? ⟨g, o + i, none⟩ = some (.int .u8 (at' l i : Nat))) (hl : l.length = n) (hb : Byt l) (h1 : 1 ≤ n) (h8 : n ≤ 8) :
    Calls Try.prog 65 #[.slice (some ⟨g, o, none⟩) n c] w fun e w' => e = .returned (.tuple #[.int .u64 (numB l : Int), .int .i64 0]) ∧ w = w' := by
  have HC := Lib.hid hc
  have HL := Lib.hid hl
  have HB := Lib.hid hb
  have hn1 : (1 : Int) ≤ (n : Int) := by omega
  have hn8 : (n : Int) ≤ 8 := by omega
  have hd1 : decide ((n : Int) < 1) = false := by simp; omega
  have hd2 : decide (8 < (n : Int)) = false := by simp; omega
  clear hc hl hb
  go_enter Try.func65, Try.ntmps65
  go_wp2_with fail
  go_loop [4, 6, 17] (fun v _ j => ∃ i : Nat, i ≤ n ∧ j = .int .i64 i ∧ v = .int .u64 (numB (l.take i) : Nat)) (fun _ _ j => n - (intOf j).toNat)
  case atStart => exact ⟨0, by omega, rfl, rfl⟩
  case round =>
    obtain ⟨i, hi, rfl, rfl⟩ := hrel
    by_cases hlt : i < n
    · have hii : (i : Int) < (n : Int) := by omega
      have hcl := HC.out i hlt
      have hx := HB.out.at' i
      have hm := numB_take HB.out (by rw [HL.out]; exact h8) (p := i) (by rw [HL.out]; exact hlt)
      have hs := take_snoc' (l := l) (p := i) (by rw [HL.out]; exact hlt)
      have hnum : numB (l.take (i + 1)) = 256 * numB (l.take i) + at' l i := by rw [hs, numB_snoc]
      generalize at' l i = x at hcl hx hnum
      generalize numB (l.take i) = m at hm hnum
      have hor := or_byte m x hm hx
      have hw1 := wrap_u64' (n := 18446744073709551615) (by decide) ((m : Int) * 256) (by omega) (by omega)
      have hw2 := wrap_u64' (n := 256) (by decide) (x : Int) (by omega) (by omega)
      have HN := Lib.hid hnum
      clear hs hnum
      go_wp2
      go_round
      case rel => exact ⟨i + 1, by omega, by go_num, by rw [HN.out]; go_num⟩
      case measure => simp [intOf]; omega
    · obtain rfl : i = n := by omega
      have he : l.take i = l := List.take_of_length_le (by rw [HL.out]; omega)
      rw [he]
      clear he
      generalize hme : numB l = m
      have HME := Lib.hid hme
      clear hme
      go_wp2
      go_ret2
      exact ⟨by rw [HME.out]; rfl, rfl⟩
set_option maxRecDepth 100000 in
set_option maxHeartbeats 1000000 in
theorem number_any (A : Option Addr) (n c : Nat) (l : List Nat) (w : World) (hin : IsB w A n c l) (h1 : 1 ≤ n) (h8 : n ≤ 8) :
    Calls Try.prog 67 #[.slice A n c] w fun e w' => e = .returned (.int .u64 (numB l : Int)) ∧ w = w' := by
  obtain ⟨x0, rfl, hx0, hcl⟩ := hin.cell (by omega)
  have HC := Lib.hid hcl
  have HL := Lib.hid hin.len
  have HB := Lib.hid hin.2
  have hn8 : (n : Int) ≤ 8 := by omega
  clear hin hcl
  go_enter Try.func67, Try.ntmps67
  go_wp2_with fail
  go_loop [3, 4] (fun v j => ∃ i : Nat, i ≤ n ∧ j = .int .i64 i ∧ v = .int .u64 (numB (l.take i) : Nat)) (fun _ j => n - (intOf j).toNat)
  case atStart => exact ⟨0, by omega, rfl, rfl⟩
  case round =>
    obtain ⟨i, hi, rfl, rfl⟩ := hrel
    by_cases hlt : i < n
    · have hii : (i : Int) < (n : Int) := by omega
      have hcl := HC.out i hlt
      have hx := HB.out.at' i
      have hm := numB_take HB.out (by rw [HL.out]; exact h8) (p := i) (by rw [HL.out]; exact hlt)
      have hs := take_snoc' (l := l) (p := i) (by rw [HL.out]; exact hlt)
      have hnum : numB (l.take (i + 1)) = 256 * numB (l.take i) + at' l i := by rw [hs, numB_snoc]
      generalize at' l i = x at hcl hx hnum
      generalize numB (l.take i) = m at hm hnum
      have hw1 := wrap_u64' (n := 18446744073709551615) (by decide) (256 * (m : Int)) (by omega) (by omega)
      have hw2 := wrap_u64' (n := 256) (by decide) (x : Int) (by omega) (by omega)
      have hw3 := wrap_u64' (n := 18446744073709551615) (by decide) (256 * (m : Int) + (x : Int)) (by omega) (by omega)
      have HN := Lib.hid hnum
      clear hs hnum
      go_wp2
      go_round
      case rel => exact ⟨i + 1, by omega, by go_num, by rw [HN.out]; go_num⟩
      case measure => simp [intOf]; omega
    · obtain rfl : i = n := by omega
      have he : l.take i = l := List.take_of_length_le (by rw [HL.out]; omega)
      rw [he]
      clear he
      generalize hme : numB l = m
      have HME := Lib.hid hme
      clear hme
      go_wp2
      go_ret
      exact ⟨by rw [HME.out]; rfl, rfl⟩
end Go.Proofs.Ytpofndciepoooaa
