/-
  THE PLAIN SPECIFICATION: the field of 256, the box, the columns: functions on natural numbers; what the program's and the reference's ways have in common, by the kernel's reckoning over all bytes.
  WALKS of the field of 256: the program's functions of bytes.
  WALKS of the field of 256: the reference's functions of bytes.
-/
import Derived.Test.YtakgebbeknfplaaGreatRows
import Derived.WalkKit
import Derived.WalkSpells
import Derived.WalkLawsBesides
import Derived.Lib.Hide
import Derived.Deep.QuietTactic
import Derived.BigQuiet
namespace Go.Proofs.YtakgebbeknfplaaGreat

/-! the program's way -/
def dbl (a : Nat) : Nat := if a < 128 then 2 * a else (2 * a - 256) ^^^ 27
def mulGo : Nat → Nat → Nat → Nat → Nat
  | 0, _, _, c => c
  | f + 1, a, b, c => if b = 0 then c else mulGo f (dbl a) (b / 2) (if b % 2 = 1 then c ^^^ a else c)
def gmul (a b : Nat) : Nat := mulGo 8 a b 0
def powGo : Nat → Nat → Nat → Nat → Nat
  | 0, _, _, c => c
  | f + 1, a, n, c => if n = 0 then c else powGo f (gmul a a) (n / 2) (if n % 2 = 1 then gmul c a else c)
def gpow (a n : Nat) : Nat := powGo 32 a n 1
def ginv (a : Nat) : Nat := gpow a 254
def rot (a n : Nat) : Nat := (a * 2 ^ n % 256) ||| (a / 2 ^ (8 - n))
def gsub (a : Nat) : Nat := ginv a ^^^ rot (ginv a) 1 ^^^ rot (ginv a) 2 ^^^ rot (ginv a) 3 ^^^ rot (ginv a) 4 ^^^ 99

/-! the reference's way -/
def rbit (a i : Nat) : Nat := a / 2 ^ (i % 8) % 2
def rmulA (a b : Nat) : Nat → Nat
  | 0 => 0
  | i + 1 => if rbit b i = 1 then rmulA a b i ^^^ (a * 2 ^ i) else rmulA a b i
/-- the rest: k steps from 14 down -/
def rmulB (p : Nat) : Nat → Nat
  | 0 => p
  | k + 1 => if rmulB p k / 2 ^ (14 - k) % 2 = 1 then rmulB p k ^^^ (283 * 2 ^ (6 - k)) else rmulB p k
def rmul (a b : Nat) : Nat := rmulB (rmulA a b 8) 7 % 256
/-- the first i from i on that answers yes; 0: there is none -/
def findGo (p : Nat → Bool) : Nat → Nat → Nat
  | 0, _ => 0
  | f + 1, i => if p i then i else findGo p f (i + 1)
def rinv (a : Nat) : Nat := findGo (fun i => rmul a i == 1) 256 0
def rpowGo (a : Nat) : Nat → Nat
  | 0 => 1
  | k + 1 => rmul (rpowGo a k) a
def rpow (a n : Nat) : Nat := if n = 0 then 1 else if a = 0 then 0 else rpowGo a (n % 255)
/-- k bits from the highest down -/
def rsubGo (b : Nat) : Nat → Nat
  | 0 => 0
  | k + 1 => 2 * rsubGo b k + (rbit b (7 - k) + rbit b (7 - k + 4) + rbit b (7 - k + 5) + rbit b (7 - k + 6) + rbit b (7 - k + 7) + rbit 99 (7 - k)) % 2
def rsub (a : Nat) : Nat := rsubGo (rinv a) 8

/-! what is common -/
def sboxL : List Nat := [99, 124, 119, 123, 242, 107, 111, 197, 48, 1, 103, 43, 254, 215, 171, 118, 202, 130, 201, 125, 250, 89, 71, 240, 173, 212, 162, 175, 156, 164, 114, 192, 183, 253, 147, 38, 54, 63, 247, 204, 52, 165, 229, 241, 113, 216, 49, 21, 4, 199, 35, 195, 24, 150, 5, 154, 7, 18, 128, 226, 235, 39, 178, 117, 9, 131, 44, 26, 27, 110, 90, 160, 82, 59, 214, 179, 41, 227, 47, 132, 83, 209, 0, 237, 32, 252, 177, 91, 106, 203, 190, 57, 74, 76, 88, 207, 208, 239, 170, 251, 67, 77, 51, 133, 69, 249, 2, 127, 80, 60, 159, 168, 81, 163, 64, 143, 146, 157, 56, 245, 188, 182, 218, 33, 16, 255, 243, 210, 205, 12, 19, 236, 95, 151, 68, 23, 196, 167, 126, 61, 100, 93, 25, 115, 96, 129, 79, 220, 34, 42, 144, 136, 70, 238, 184, 20, 222, 94, 11, 219, 224, 50, 58, 10, 73, 6, 36, 92, 194, 211, 172, 98, 145, 149, 228, 121, 231, 200, 55, 109, 141, 213, 78, 169, 108, 86, 244, 234, 101, 122, 174, 8, 186, 120, 37, 46, 28, 166, 180, 198, 232, 221, 116, 31, 75, 189, 139, 138, 112, 62, 181, 102, 72, 3, 246, 14, 97, 53, 87, 185, 134, 193, 29, 158, 225, 248, 152, 17, 105, 217, 142, 148, 155, 30, 135, 233, 206, 85, 40, 223, 140, 161, 137, 13, 191, 230, 66, 104, 65, 153, 45, 15, 176, 84, 187, 22]
def sbox (a : Nat) : Nat := sboxL.getD a 0
def sinv (a : Nat) : Nat := findGo (fun i => sbox i == a) 256 0

theorem gsub_sbox : ∀ a, a < 256 → gsub a = sbox a := by decide +kernel
theorem sbox_lt : ∀ a, a < 256 → sbox a < 256 := by decide +kernel
theorem sinv_sbox : ∀ a, a < 256 → sinv (sbox a) = a := by decide +kernel
theorem sbox_sinv : ∀ a, a < 256 → sbox (sinv a) = a := by decide +kernel
theorem sinv_lt : ∀ a, a < 256 → sinv a < 256 := by decide +kernel
theorem rsub_sbox : ∀ a, a < 256 → rsub a = sbox a := by decide +kernel
theorem rmul_gmul : ∀ a, a < 16 → ∀ b, b < 256 → rmul a b = gmul a b := by decide +kernel
theorem rpow_gpow : ∀ n, n < 16 → rpow 2 n = gpow 2 n := by decide +kernel
theorem gpow_lt : ∀ n, n < 16 → gpow 2 n < 256 := by decide +kernel

end Go.Proofs.YtakgebbeknfplaaGreat

namespace Go.Proofs.YtakgebbeknfplaaGreat
open Go.RowKit
set_option linter.unusedVariables false

/-! bytes under the walk's own words -/
theorem bits_xor_u8 (a b : Nat) (ha : a < 256) (hb : b < 256) : bits .xor .u8 (a : Int) (b : Int) = ((a ^^^ b : Nat) : Int) := by
  have h : a ^^^ b < 2 ^ 8 := Nat.xor_lt_two_pow (by omega) (by omega)
  show IntKind.u8.wrap ((BitVec.ofInt 8 (a : Int) ^^^ BitVec.ofInt 8 (b : Int)).toNat : Int) = _
  rw [BitVec.toNat_xor, BitVec.ofInt_natCast, BitVec.ofInt_natCast, BitVec.toNat_ofNat, BitVec.toNat_ofNat, Nat.mod_eq_of_lt (by omega), Nat.mod_eq_of_lt (by omega)]
  show ((a ^^^ b : Nat) : Int) % 256 = _
  omega
theorem bits_or_u8 (a b : Nat) (ha : a < 256) (hb : b < 256) : bits .or .u8 (a : Int) (b : Int) = ((a ||| b : Nat) : Int) := by
  have h : a ||| b < 2 ^ 8 := Nat.or_lt_two_pow (by omega) (by omega)
  show IntKind.u8.wrap ((BitVec.ofInt 8 (a : Int) ||| BitVec.ofInt 8 (b : Int)).toNat : Int) = _
  rw [BitVec.toNat_or, BitVec.ofInt_natCast, BitVec.ofInt_natCast, BitVec.toNat_ofNat, BitVec.toNat_ofNat, Nat.mod_eq_of_lt (by omega), Nat.mod_eq_of_lt (by omega)]
  show ((a ||| b : Nat) : Int) % 256 = _
  omega
theorem xor_lt {a b : Nat} (ha : a < 256) (hb : b < 256) : a ^^^ b < 256 := Nat.xor_lt_two_pow (n := 8) (by omega) (by omega)
theorem or_lt {a b : Nat} (ha : a < 256) (hb : b < 256) : a ||| b < 256 := Nat.or_lt_two_pow (n := 8) (by omega) (by omega)
theorem ret_u8 {a : Int} {b : Nat} (h : a = b) : Ending.returned (.int .u8 a) = .returned (.int .u8 (b : Int)) := by rw [h]

theorem dbl_lt : ∀ a, a < 256 → dbl a < 256 := by decide +kernel
theorem dbl_hi : ∀ a : Nat, a < 256 → (bits BinOp.and IntKind.u8 (a : Int) 128 != 0) = true → bits BinOp.xor IntKind.u8 ((a : Int) * 2 % 256) 27 = ((dbl a : Nat) : Int) := by decide +kernel
theorem dbl_lo : ∀ a : Nat, a < 256 → (bits BinOp.and IntKind.u8 (a : Int) 128 != 0) = false → (a : Int) * 2 % 256 = ((dbl a : Nat) : Int) := by decide +kernel

set_option maxRecDepth 100000 in
set_option maxHeartbeats 400000 in
theorem dbl_any (a : Nat) (ha : a < 256) (w : World) :
    Calls Tryz.prog 354 #[.int .u8 (a : Int)] w fun e w' => e = .returned (.int .u8 (dbl a : Nat)) ∧ w = w' := by
  have h1 := dbl_hi a ha
  have h2 := dbl_lo a ha
  generalize dbl a = r at h1 h2
  cases h : (bits BinOp.and IntKind.u8 (a : Int) 128 != 0)
  · have H2 := Lib.hid (h2 h)
    clear h1 h2
    go_enter Tryz.func354, Tryz.ntmps354
    go_wp2
    go_ret
    exact ⟨ret_u8 H2.out, rfl⟩
  · have H1 := Lib.hid (h1 h)
    clear h1 h2
    go_enter Tryz.func354, Tryz.ntmps354
    go_wp2
    go_ret
    exact ⟨ret_u8 H1.out, rfl⟩

theorem mulGo_lt : ∀ f a b c, a < 256 → c < 256 → mulGo f a b c < 256
  | 0, a, b, c, ha, hc => hc
  | f + 1, a, b, c, ha, hc => by
    simp only [mulGo]
    split
    · exact hc
    · refine mulGo_lt f _ _ _ (dbl_lt a ha) ?_
      split
      · exact xor_lt hc ha
      · exact hc
theorem gmul_lt {a : Nat} (b : Nat) (ha : a < 256) : gmul a b < 256 := mulGo_lt 8 a b 0 ha (by omega)
theorem mulGo_zero : ∀ f a c, mulGo f a 0 c = c
  | 0, _, _ => rfl
  | f + 1, _, _ => by simp [mulGo]
theorem odd_u8 : ∀ b : Nat, b < 256 → (bits BinOp.and IntKind.u8 (b : Int) 1 != 0) = decide (b % 2 = 1) := by decide +kernel
theorem mulGo_step {f A B C R : Nat} (hf : B < 2 ^ f) (hm : mulGo f A B C = R) (hB : B ≠ 0) : ∃ f', B / 2 < 2 ^ f' ∧ mulGo f' (dbl A) (B / 2) (if B % 2 = 1 then C ^^^ A else C) = R := by
  cases f with
  | zero => omega
  | succ f =>
    simp only [mulGo, if_neg hB] at hm
    exact ⟨f, by rw [Nat.pow_succ] at hf; omega, hm⟩

set_option maxRecDepth 100000 in
set_option maxHeartbeats 400000 in
theorem mul_any (a b : Nat) (ha : a < 256) (hb : b < 256) (w : World) :
    Calls Tryz.prog 352 #[.int .u8 (a : Int), .int .u8 (b : Int)] w fun e w' => e = .returned (.int .u8 (gmul a b : Nat)) ∧ w = w' := by
  generalize hr : gmul a b = R
  have HR := Lib.hid hr
  clear hr
  go_enter Tryz.func352, Tryz.ntmps352
  go_wp2
  go_loop [0, 1, 5] (fun x y z => ∃ A B C f : Nat, A < 256 ∧ B < 256 ∧ C < 256 ∧ B < 2 ^ f ∧ mulGo f A B C = R ∧ x = .int .u8 A ∧ y = .int .u8 B ∧ z = .int .u8 C) (fun _ y _ => (intOf y).toNat)
  case atStart => exact ⟨a, b, 0, 8, ha, hb, by omega, hb, HR.out, rfl, rfl, rfl⟩
  case round =>
    obtain ⟨A, B, C, f, hA, hB, hC, hf, hm, rfl, rfl, rfl⟩ := hrel
    by_cases h0 : B = 0
    · have HM := Lib.hid hm
      subst h0
      clear hm hf
      go_wp2
      go_ret
      exact ⟨ret_u8 (by rw [← HM.out, mulGo_zero]), rfl⟩
    · obtain ⟨f', hf', hm'⟩ := mulGo_step hf hm h0
      have h0' : ((B : Int) != 0) = true := by simp; omega
      have hx := bits_xor_u8 C A hC hA
      have hxl := xor_lt hC hA
      have hdl := dbl_lt A hA
      have hod := odd_u8 B hB
      have HM := Lib.hid hm'
      have HF := Lib.hid hf'
      clear hm hm' hf hf'
      by_cases h1 : B % 2 = 1
      · have H1 := Lib.hid h1
        rw [decide_eq_true h1] at hod
        clear h1
        generalize C ^^^ A = X at hx hxl HM
        go_wp2_with (go_at_call 354; refine (dbl_any _ hA _).mono ?_; rintro e w' ⟨rfl, rfl⟩)
        go_round
        case rel => exact ⟨dbl A, B / 2, X, f', hdl, by omega, hxl, HF.out, by have := HM.out; rw [if_pos H1.out] at this; exact this, rfl, by go_num, rfl⟩
        case measure => simp [intOf]; omega
      · have H1 := Lib.hid h1
        rw [decide_eq_false h1] at hod
        clear h1
        go_wp2_with (go_at_call 354; refine (dbl_any _ hA _).mono ?_; rintro e w' ⟨rfl, rfl⟩)
        go_round
        case rel => exact ⟨dbl A, B / 2, C, f', hdl, by omega, hC, HF.out, by have := HM.out; rw [if_neg H1.out] at this; exact this, rfl, by go_num, rfl⟩
        case measure => simp [intOf]; omega

theorem powGo_zero : ∀ f a c, powGo f a 0 c = c
  | 0, _, _ => rfl
  | f + 1, _, _ => by simp [powGo]
theorem powGo_step {f A n C R : Nat} (hf : n < 2 ^ f) (hm : powGo f A n C = R) (hn : n ≠ 0) : ∃ f', n / 2 < 2 ^ f' ∧ powGo f' (gmul A A) (n / 2) (if n % 2 = 1 then gmul C A else C) = R := by
  cases f with
  | zero => omega
  | succ f =>
    simp only [powGo, if_neg hn] at hm
    exact ⟨f, by rw [Nat.pow_succ] at hf; omega, hm⟩
theorem powGo_lt : ∀ f a n c, a < 256 → c < 256 → powGo f a n c < 256
  | 0, a, n, c, ha, hc => hc
  | f + 1, a, n, c, ha, hc => by
    simp only [powGo]
    split
    · exact hc
    · refine powGo_lt f _ _ _ (gmul_lt _ ha) ?_
      split
      · exact gmul_lt _ hc
      · exact hc
theorem ginv_lt {a : Nat} (ha : a < 256) : ginv a < 256 := powGo_lt 32 a 254 1 ha (by omega)
theorem odd_u32 (n : Nat) (hn : n < 4294967296) : (bits BinOp.and IntKind.u32 (n : Int) 1 != 0) = decide (n % 2 = 1) := by
  have e : bits BinOp.and IntKind.u32 (n : Int) 1 = ((n % 2 : Nat) : Int) := by
    show IntKind.u32.wrap ((BitVec.ofInt 32 (n : Int) &&& BitVec.ofInt 32 1).toNat : Int) = _
    have h1 : (BitVec.ofInt 32 1).toNat = 2 ^ 1 - 1 := by decide
    rw [BitVec.toNat_and, h1, Nat.and_two_pow_sub_one_eq_mod, BitVec.ofInt_natCast, BitVec.toNat_ofNat]
    show ((n % 2 ^ 32 % 2 ^ 1 : Nat) : Int) % 4294967296 = _
    omega
  rw [e]
  rcases Nat.mod_two_eq_zero_or_one n with h | h <;> rw [h] <;> rfl

set_option maxRecDepth 100000 in
set_option maxHeartbeats 400000 in
theorem pow_any (a n : Nat) (ha : a < 256) (hn : n < 4294967296) (w : World) :
    Calls Tryz.prog 340 #[.int .u8 (a : Int), .int .u32 (n : Int)] w fun e w' => e = .returned (.int .u8 (gpow a n : Nat)) ∧ w = w' := by
  generalize hr : gpow a n = R
  have HR := Lib.hid hr
  clear hr
  go_enter Tryz.func340, Tryz.ntmps340
  go_wp2
  go_loop [0, 1, 5] (fun x y z => ∃ A N C f : Nat, A < 256 ∧ N < 4294967296 ∧ C < 256 ∧ N < 2 ^ f ∧ powGo f A N C = R ∧ x = .int .u8 A ∧ y = .int .u32 N ∧ z = .int .u8 C) (fun _ y _ => (intOf y).toNat)
  case atStart => exact ⟨a, n, 1, 32, ha, hn, by omega, hn, HR.out, rfl, rfl, rfl⟩
  case round =>
    obtain ⟨A, N, C, f, hA, hN, hC, hf, hm, rfl, rfl, rfl⟩ := hrel
    by_cases h0 : N = 0
    · have HM := Lib.hid hm
      subst h0
      clear hm hf
      go_wp2
      go_ret
      exact ⟨ret_u8 (by rw [← HM.out, powGo_zero]), rfl⟩
    · obtain ⟨f', hf', hm'⟩ := powGo_step hf hm h0
      have h0' : (0 : Int) < (N : Int) := by omega
      have hxl := gmul_lt A hC
      have hdl := gmul_lt A hA
      have hod := odd_u32 N hN
      have HM := Lib.hid hm'
      have HF := Lib.hid hf'
      clear hm hm' hf hf'
      by_cases h1 : N % 2 = 1
      · have H1 := Lib.hid h1
        rw [decide_eq_true h1] at hod
        clear h1
        go_wp2_with fail
        refine (mul_any C A hC hA _).mono ?_
        rintro e w' ⟨rfl, rfl⟩
        go_wp2_with fail
        refine (mul_any A A hA hA _).mono ?_
        rintro e w' ⟨rfl, rfl⟩
        go_wp2
        go_round
        case rel => exact ⟨gmul A A, N / 2, gmul C A, f', hdl, by omega, hxl, HF.out, by have := HM.out; rw [if_pos H1.out] at this; exact this, rfl, by go_num, rfl⟩
        case measure => simp [intOf]; omega
      · have H1 := Lib.hid h1
        rw [decide_eq_false h1] at hod
        clear h1
        go_wp2_with fail
        refine (mul_any A A hA hA _).mono ?_
        rintro e w' ⟨rfl, rfl⟩
        go_wp2
        go_round
        case rel => exact ⟨gmul A A, N / 2, C, f', hdl, by omega, hC, HF.out, by have := HM.out; rw [if_neg H1.out] at this; exact this, rfl, by go_num, rfl⟩
        case measure => simp [intOf]; omega

set_option maxRecDepth 100000 in
set_option maxHeartbeats 400000 in
theorem inv_any (a : Nat) (ha : a < 256) (w : World) :
    Calls Tryz.prog 341 #[.int .u8 (a : Int)] w fun e w' => e = .returned (.int .u8 (ginv a : Nat)) ∧ w = w' := by
  go_enter Tryz.func341, Tryz.ntmps341
  go_wp2_with fail
  refine (pow_any a 254 ha (by omega) _).mono ?_
  rintro e w' ⟨rfl, rfl⟩
  go_wp2
  go_ret
  exact ⟨rfl, rfl⟩

theorem rot_lt {a n : Nat} (ha : a < 256) : rot a n < 256 := or_lt (Nat.mod_lt _ (by omega)) (Nat.lt_of_le_of_lt (Nat.div_le_self _ _) ha)
theorem rot_eq (a n : Nat) (ha : a < 256) : bits BinOp.or IntKind.u8 ((a : Int) * 2 ^ n % 256) ((a : Int) / 2 ^ (8 - n)) = ((rot a n : Nat) : Int) := by
  have h1 : (a : Int) * 2 ^ n % 256 = ((a * 2 ^ n % 256 : Nat) : Int) := by simp
  have h2 : (a : Int) / 2 ^ (8 - n) = ((a / 2 ^ (8 - n) : Nat) : Int) := by simp
  rw [h1, h2, bits_or_u8 _ _ (Nat.mod_lt _ (by omega)) (Nat.lt_of_le_of_lt (Nat.div_le_self _ _) ha)]
  rfl

set_option maxRecDepth 100000 in
set_option maxHeartbeats 400000 in
theorem round_any (a : Nat) (n : Nat) (ha : a < 256) (h0 : 1 ≤ n) (h1 : n ≤ 7) (w : World) :
    Calls Tryz.prog 342 #[.int .u8 (a : Int), .int .i64 (n : Int)] w fun e w' => e = .returned (.int .u8 (rot a n : Nat)) ∧ ∃ m, w' = w.drewN m := by
  have H := Lib.hid (rot_eq a n ha)
  have hw8 : IntKind.i64.wrap (8 - (n : Int)) = 8 - (n : Int) := IntWalk.i64_in _ (by omega)
  have h8 : (0 : Int) ≤ 8 - (n : Int) := by omega
  have h9 : (8 - (n : Int)).toNat = 8 - n := by omega
  go_enter Tryz.func342, Tryz.ntmps342
  go_wp2
  go_quiet (fail)
  go_wp2
  go_ret
  exact ⟨ret_u8 H.out, _, rfl⟩

set_option maxRecDepth 100000 in
set_option maxHeartbeats 400000 in
theorem sub_any (a : Nat) (ha : a < 256) (w : World) :
    Calls Tryz.prog 306 #[.int .u8 (a : Int)] w fun e w' => e = .returned (.int .u8 (sbox a : Nat)) ∧ ∃ m, w' = w.drewN m := by
  have hs : gsub a = sbox a := gsub_sbox a ha
  unfold gsub at hs
  have hi := inv_any a ha
  have hil := ginv_lt ha
  generalize ginv a = b at hs hi hil
  have c1 := round_any b 1 hil (by omega) (by omega)
  have c2 := round_any b 2 hil (by omega) (by omega)
  have c3 := round_any b 3 hil (by omega) (by omega)
  have c4 := round_any b 4 hil (by omega) (by omega)
  have l1 := rot_lt (n := 1) hil
  have l2 := rot_lt (n := 2) hil
  have l3 := rot_lt (n := 3) hil
  have l4 := rot_lt (n := 4) hil
  generalize rot b 1 = r1 at hs c1 l1
  generalize rot b 2 = r2 at hs c2 l2
  generalize rot b 3 = r3 at hs c3 l3
  generalize rot b 4 = r4 at hs c4 l4
  have x1 := bits_xor_u8 b r1 hil l1
  have y1 := xor_lt hil l1
  generalize b ^^^ r1 = s1 at hs x1 y1
  have x2 := bits_xor_u8 s1 r2 y1 l2
  have y2 := xor_lt y1 l2
  generalize s1 ^^^ r2 = s2 at hs x2 y2
  have x3 := bits_xor_u8 s2 r3 y2 l3
  have y3 := xor_lt y2 l3
  generalize s2 ^^^ r3 = s3 at hs x3 y3
  have x4 := bits_xor_u8 s3 r4 y3 l4
  have y4 := xor_lt y3 l4
  generalize s3 ^^^ r4 = s4 at hs x4 y4
  have x5 : bits .xor .u8 (s4 : Int) 99 = ((s4 ^^^ 99 : Nat) : Int) := bits_xor_u8 s4 99 y4 (by omega)
  have HS := Lib.hid hs
  have HI := Lib.hid hi
  have C1 := Lib.hid c1
  have C2 := Lib.hid c2
  have C3 := Lib.hid c3
  have C4 := Lib.hid c4
  clear hs hi c1 c2 c3 c4
  go_enter Tryz.func306, Tryz.ntmps306
  go_wp2_with fail
  refine (HI.out _).mono ?_
  rintro e w' ⟨rfl, rfl⟩
  go_wp2_with fail
  refine (C1.out _).mono ?_
  rintro e w' ⟨rfl, m1, rfl⟩
  go_wp2_with fail
  refine (C2.out _).mono ?_
  rintro e w' ⟨rfl, m2, rfl⟩
  go_wp2_with fail
  refine (C3.out _).mono ?_
  rintro e w' ⟨rfl, m3, rfl⟩
  go_wp2_with fail
  refine (C4.out _).mono ?_
  rintro e w' ⟨rfl, m4, rfl⟩
  go_wp2
  go_ret
  exact ⟨ret_u8 (by rw [HS.out]), _, rfl⟩

end Go.Proofs.YtakgebbeknfplaaGreat

namespace Go.Proofs.YtakgebbeknfplaaGreat
open Go.RowKit
set_option linter.unusedVariables false

theorem ret_i64 {a : Int} {b : Nat} (h : a = b) : Ending.returned (.int .i64 a) = .returned (.int .i64 (b : Int)) := by rw [h]
theorem bits_xor_i64 (a b : Nat) (ha : a < 4294967296) (hb : b < 4294967296) : bits .xor .i64 (a : Int) (b : Int) = ((a ^^^ b : Nat) : Int) := by
  have h : a ^^^ b < 2 ^ 32 := Nat.xor_lt_two_pow (by omega) (by omega)
  show IntKind.i64.wrap ((BitVec.ofInt 64 (a : Int) ^^^ BitVec.ofInt 64 (b : Int)).toNat : Int) = _
  rw [BitVec.toNat_xor, BitVec.ofInt_natCast, BitVec.ofInt_natCast, BitVec.toNat_ofNat, BitVec.toNat_ofNat, Nat.mod_eq_of_lt (by omega), Nat.mod_eq_of_lt (by omega), IntKind.wrap_i64]
  omega

theorem rbit_walk (a i : Nat) (ha : a < 256) : (wrap64 ((a : Int) / 2 ^ (i % 8))).tmod 2 = ((rbit a i : Nat) : Int) := by
  have h2 : (a : Int) / 2 ^ (i % 8) = ((a / 2 ^ (i % 8) : Nat) : Int) := by simp
  have h3 : a / 2 ^ (i % 8) ≤ a := Nat.div_le_self _ _
  rw [h2]
  unfold rbit
  generalize a / 2 ^ (i % 8) = q at h3
  rw [IntWalk.wrap64_in (q : Int) (by omega), Int.tmod_eq_emod_of_nonneg (by omega)]
  omega
theorem rbit_lt (a i : Nat) : rbit a i < 2 := Nat.mod_lt _ (by omega)

set_option maxRecDepth 100000 in
set_option maxHeartbeats 400000 in
theorem rBit_any (a i : Nat) (ha : a < 256) (hi : i < 16) (w : World) :
    Calls Tryz.prog 347 #[.int .u8 (a : Int), .int .i64 (i : Int)] w fun e w' => e = .returned (.int .i64 (rbit a i : Nat)) ∧ w = w' := by
  have H := Lib.hid (rbit_walk a i ha)
  have h9 : ((i : Int) % 8).toNat = i % 8 := by omega
  go_enter Tryz.func347, Tryz.ntmps347
  go_wp2
  go_ret
  exact ⟨ret_i64 H.out, rfl⟩

theorem rmulA_lt (a b : Nat) (ha : a < 256) : ∀ i, i ≤ 8 → rmulA a b i < 32768
  | 0, _ => by simp [rmulA]
  | i + 1, hi => by
    have h1 := rmulA_lt a b ha i (by omega)
    have h2 : a * 2 ^ i < 32768 := by
      have : (2 : Nat) ^ i ≤ 2 ^ 7 := Nat.pow_le_pow_right (by omega) (by omega)
      calc a * 2 ^ i ≤ 255 * 2 ^ 7 := Nat.mul_le_mul (by omega) this
        _ < 32768 := by decide
    simp only [rmulA]
    split
    · exact Nat.xor_lt_two_pow (n := 15) h1 h2
    · exact h1
theorem rmulB_lt (p : Nat) (hp : p < 32768) : ∀ k, k ≤ 7 → rmulB p k < 32768
  | 0, _ => hp
  | k + 1, hk => by
    have h1 := rmulB_lt p hp k (by omega)
    have h2 : 283 * 2 ^ (6 - k) < 32768 := by
      have : (2 : Nat) ^ (6 - k) ≤ 2 ^ 6 := Nat.pow_le_pow_right (by omega) (by omega)
      calc 283 * 2 ^ (6 - k) ≤ 283 * 2 ^ 6 := Nat.mul_le_mul (by omega) this
        _ < 32768 := by decide
    simp only [rmulB]
    split
    · exact Nat.xor_lt_two_pow (n := 15) h1 h2
    · exact h1
theorem rmul_lt (a b : Nat) : rmul a b < 256 := Nat.mod_lt _ (by omega)

set_option maxRecDepth 100000 in
set_option maxHeartbeats 1000000 in
theorem rMul_any (a b : Nat) (ha : a < 256) (hb : b < 256) (w : World) :
    Calls Tryz.prog 353 #[.int .u8 (a : Int), .int .u8 (b : Int)] w fun e w' => e = .returned (.int .u8 (rmul a b : Nat)) ∧ w = w' := by
  go_enter Tryz.func353, Tryz.ntmps353
  go_wp2
  go_loop [5, 6] (fun p i => ∃ k : Nat, k ≤ 8 ∧ i = .int .i64 k ∧ p = .int .i64 (rmulA a b k : Nat)) (fun _ i => 8 - (intOf i).toNat)
  case atStart => exact ⟨0, by omega, rfl, rfl⟩
  case round =>
    obtain ⟨k, hk, rfl, rfl⟩ := hrel
    by_cases hlt : k < 8
    · have hp := rmulA_lt a b ha k hk
      have hsh : (a : Int) * 2 ^ k = ((a * 2 ^ k : Nat) : Int) := by simp
      have hshl : a * 2 ^ k < 32768 := by
        have : (2 : Nat) ^ k ≤ 2 ^ 7 := Nat.pow_le_pow_right (by omega) (by omega)
        calc a * 2 ^ k ≤ 255 * 2 ^ 7 := Nat.mul_le_mul (by omega) this
          _ < 32768 := by decide
      have hs : rmulA a b (k + 1) = if rbit b k = 1 then rmulA a b k ^^^ (a * 2 ^ k) else rmulA a b k := rfl
      generalize a * 2 ^ k = sh at hsh hshl hs
      have hx := bits_xor_i64 (rmulA a b k) sh (by omega) (by omega)
      generalize rmulA a b k = p at hp hs hx
      have HS := Lib.hid hs
      clear hs
      have hbl := rbit_lt b k
      by_cases hbit : rbit b k = 1
      · have HB := Lib.hid hbit
        have hbit' : ((rbit b k : Nat) : Int) = 1 := by rw [hbit]; rfl
        clear hbit
        go_wp2_with (go_at_call 347; refine (rBit_any b k hb (by omega) _).mono ?_; rintro e w' ⟨rfl, rfl⟩)
        go_round
        case rel => exact ⟨k + 1, by omega, by go_num, by rw [HS.out, if_pos HB.out]⟩
        case measure => simp [intOf]; omega
      · have HB := Lib.hid hbit
        have hbit' : ((rbit b k : Nat) : Int) = 0 := by omega
        clear hbit
        go_wp2_with (go_at_call 347; refine (rBit_any b k hb (by omega) _).mono ?_; rintro e w' ⟨rfl, rfl⟩)
        go_round
        case rel => exact ⟨k + 1, by omega, by go_num, by rw [HS.out, if_neg HB.out]⟩
        case measure => simp [intOf]; omega
    · obtain rfl : k = 8 := by omega
      have hp0 := rmulA_lt a b ha 8 (by omega)
      have hr : rmul a b = rmulB (rmulA a b 8) 7 % 256 := rfl
      generalize rmulA a b 8 = P at hp0 hr
      have HR := Lib.hid hr
      clear hr
      go_wp2
      go_loop [5, 7] (fun p i => ∃ k : Nat, k ≤ 7 ∧ i = .int .i64 (14 - (k : Int)) ∧ p = .int .i64 (rmulB P k : Nat)) (fun _ i => (intOf i - 7).toNat)
      case atStart => exact ⟨0, by omega, rfl, rfl⟩
      case round =>
        obtain ⟨j, hj, rfl, rfl⟩ := hrel
        by_cases hlt2 : j < 7
        · have hq := rmulB_lt P hp0 j (by omega)
          have hs : rmulB P (j + 1) = if rmulB P j / 2 ^ (14 - j) % 2 = 1 then rmulB P j ^^^ (283 * 2 ^ (6 - j)) else rmulB P j := rfl
          have hshl : 283 * 2 ^ (6 - j) < 32768 := by
            have : (2 : Nat) ^ (6 - j) ≤ 2 ^ 6 := Nat.pow_le_pow_right (by omega) (by omega)
            calc 283 * 2 ^ (6 - j) ≤ 283 * 2 ^ 6 := Nat.mul_le_mul (by omega) this
              _ < 32768 := by decide
          have hsh : (283 : Int) * 2 ^ (6 - j) = ((283 * 2 ^ (6 - j) : Nat) : Int) := by simp
          generalize 283 * 2 ^ (6 - j) = sh at hsh hshl hs
          have hdv : ((rmulB P j : Nat) : Int) / 2 ^ (14 - j) = ((rmulB P j / 2 ^ (14 - j) : Nat) : Int) := by simp
          have hdl : rmulB P j / 2 ^ (14 - j) ≤ rmulB P j := Nat.div_le_self _ _
          generalize rmulB P j / 2 ^ (14 - j) = dv at hdv hdl hs
          have hx := bits_xor_i64 (rmulB P j) sh (by omega) (by omega)
          generalize rmulB P j = p at hq hs hx hdv hdl
          have t1 : (14 - (j : Int)).toNat = 14 - j := by omega
          have t2 : (14 - (j : Int) - 8).toNat = 6 - j := by omega
          have t3 : (6 - (j : Int)).toNat = 6 - j := by omega
          have HS := Lib.hid hs
          clear hs
          by_cases hbit : dv % 2 = 1
          · have HB := Lib.hid hbit
            have hbit' : (dv : Int) % 2 = 1 := by omega
            clear hbit
            go_wp2
            go_round
            case rel => exact ⟨j + 1, by omega, by go_num, by rw [HS.out, if_pos HB.out]⟩
            case measure => simp [intOf]; omega
          · have HB := Lib.hid hbit
            have hbit' : (dv : Int) % 2 = 0 := by omega
            clear hbit
            go_wp2
            go_round
            case rel => exact ⟨j + 1, by omega, by go_num, by rw [HS.out, if_neg HB.out]⟩
            case measure => simp [intOf]; omega
        · obtain rfl : j = 7 := by omega
          go_wp2
          go_ret
          exact ⟨ret_u8 (by rw [HR.out]; omega), rfl⟩

/-- a search: what it has come to -/
theorem findGo_start (p : Nat → Bool) (n : Nat) (h : findGo p n 0 = findGo p n 0) : True := trivial
theorem findGo_yes (p : Nat → Bool) {f i : Nat} (h : p i = true) : findGo p (f + 1) i = i := by simp [findGo, h]
theorem findGo_no (p : Nat → Bool) {f i : Nat} (h : p i = false) : findGo p (f + 1) i = findGo p f (i + 1) := by simp [findGo, h]
theorem findGo_lt (p : Nat → Bool) : ∀ f i, i + f ≤ 256 → findGo p f i < 256
  | 0, i, _ => by simp [findGo]
  | f + 1, i, h => by
    simp only [findGo]
    split
    · omega
    · exact findGo_lt p f (i + 1) (by omega)

set_option maxRecDepth 100000 in
set_option maxHeartbeats 1000000 in
theorem rInv_any (a : Nat) (ha : a < 256) (w : World) :
    Calls Tryz.prog 346 #[.int .u8 (a : Int)] w fun e w' => e = .returned (.int .u8 (rinv a : Nat)) ∧ w = w' := by
  have hr : rinv a = findGo (fun i => rmul a i == 1) 256 0 := rfl
  generalize rinv a = R at hr
  have HR := Lib.hid hr.symm
  clear hr
  go_enter Tryz.func346, Tryz.ntmps346
  go_wp2
  go_loop [3] (fun i => ∃ k : Nat, k ≤ 256 ∧ i = .int .i64 k ∧ findGo (fun i => rmul a i == 1) (256 - k) k = R) (fun i => 256 - (intOf i).toNat)
  case atStart => exact ⟨0, by omega, rfl, HR.out⟩
  case round =>
    obtain ⟨k, hk, rfl, hf⟩ := hrel
    by_cases hlt : k < 256
    · have hkm : (k : Int) % 256 = (k : Int) := by omega
      obtain ⟨f, hf0⟩ : ∃ f, 256 - k = f + 1 := ⟨255 - k, by omega⟩
      rw [hf0] at hf
      have HF0 := Lib.hid hf0
      clear hf0
      have hrl := rmul_lt a k
      by_cases hy : rmul a k = 1
      · rw [findGo_yes _ (by simp [hy])] at hf
        have HF := Lib.hid hf
        have hy' : ((rmul a k : Nat) : Int) = 1 := by rw [hy]; rfl
        clear hf hy
        go_wp2_with (go_at_call 353; refine (rMul_any a k ha hlt _).mono ?_; rintro e w' ⟨rfl, rfl⟩)
        go_ret
        exact ⟨ret_u8 (by rw [HF.out]), rfl⟩
      · rw [findGo_no _ (by simp [hy])] at hf
        have hz : f = 256 - (k + 1) := by have := HF0.out; omega
        rw [hz] at hf
        have HF := Lib.hid hf
        have hy' : (((rmul a k : Nat) : Int) == 1) = false := by simp; omega
        clear hf hz hy HF0
        go_wp2_with (go_at_call 353; refine (rMul_any a k ha hlt _).mono ?_; rintro e w' ⟨rfl, rfl⟩)
        go_round
        case rel => exact ⟨k + 1, by omega, by go_num, HF.out⟩
        case measure => simp [intOf]; omega
    · obtain rfl : k = 256 := by omega
      have HF := Lib.hid hf
      clear hf
      go_wp2
      go_ret
      exact ⟨ret_u8 (by have := HF.out; simp [findGo] at this; rw [← this]; rfl), rfl⟩

theorem rpowGo_lt (a : Nat) : ∀ k, rpowGo a k < 256
  | 0 => by simp [rpowGo]
  | k + 1 => rmul_lt _ _

set_option maxRecDepth 100000 in
set_option maxHeartbeats 1000000 in
theorem rPow_any (n : Nat) (hn : n < 16) (w : World) :
    Calls Tryz.prog 345 #[.int .u8 2, .int .u32 (n : Int)] w fun e w' => e = .returned (.int .u8 (gpow 2 n : Nat)) ∧ w = w' := by
  have hr := rpow_gpow n hn
  generalize gpow 2 n = R at hr
  by_cases h0 : n = 0
  · subst h0
    have e : R = 1 := hr.symm
    subst e
    clear hr
    go_enter Tryz.func345, Tryz.ntmps345
    go_wp2
    go_ret
    exact ⟨rfl, rfl⟩
  · have h1 : ((n : Int) == 0) = false := by simp; omega
    have e : rpow 2 n = rpowGo 2 n := by unfold rpow; rw [if_neg h0, if_neg (by omega), Nat.mod_eq_of_lt (by omega)]
    rw [e] at hr
    have HR := Lib.hid hr
    clear hr e
    have hm : (n : Int) % 255 = (n : Int) := by omega
    go_enter Tryz.func345, Tryz.ntmps345
    go_wp2
    go_loop [5, 6] (fun c i => ∃ k : Nat, k ≤ n ∧ i = .int .u32 k ∧ c = .int .u8 (rpowGo 2 k : Nat)) (fun _ i => n - (intOf i).toNat)
    case atStart => exact ⟨0, by omega, rfl, rfl⟩
    case round =>
      obtain ⟨k, hk, rfl, rfl⟩ := hrel
      by_cases hlt : k < n
      · have hl := rpowGo_lt 2 k
        have hs : rpowGo 2 (k + 1) = rmul (rpowGo 2 k) 2 := rfl
        generalize rpowGo 2 k = c at hl hs
        have HS := Lib.hid hs
        clear hs
        go_wp2_with fail
        refine (rMul_any c 2 hl (by omega) _).mono ?_
        rintro e w' ⟨rfl, rfl⟩
        go_wp2
        go_round
        case rel => exact ⟨k + 1, by omega, by go_num, by rw [HS.out]⟩
        case measure => simp [intOf]; omega
      · obtain rfl : k = n := by omega
        go_wp2
        go_ret
        exact ⟨ret_u8 (by rw [HR.out]), rfl⟩

theorem rsubGo_lt (b : Nat) : ∀ k, k ≤ 8 → rsubGo b k < 2 ^ k
  | 0, _ => by simp [rsubGo]
  | k + 1, hk => by
    have h1 := rsubGo_lt b k (by omega)
    simp only [rsubGo]
    have h2 : 2 ^ (k + 1) = 2 * 2 ^ k := by rw [Nat.pow_succ]; omega
    generalize rbit b (7 - k) + rbit b (7 - k + 4) + rbit b (7 - k + 5) + rbit b (7 - k + 6) + rbit b (7 - k + 7) + rbit 99 (7 - k) = q
    omega

set_option maxRecDepth 100000 in
set_option maxHeartbeats 1000000 in
theorem rSub_any (a : Nat) (ha : a < 256) (w : World) :
    Calls Tryz.prog 325 #[.int .u8 (a : Int)] w fun e w' => e = .returned (.int .u8 (sbox a : Nat)) ∧ w = w' := by
  have hr : rsubGo (rinv a) 8 = sbox a := rsub_sbox a ha
  have hc := rInv_any a ha
  have hbl : rinv a < 256 := findGo_lt _ 256 0 (by omega)
  generalize rinv a = b at hr hc hbl
  generalize sbox a = R at hr
  have hl8 := rsubGo_lt b 8 (by omega)
  have HR := Lib.hid hr
  have HC := Lib.hid hc
  clear hr hc
  go_enter Tryz.func325, Tryz.ntmps325
  go_wp2_with fail
  refine (HC.out _).mono ?_
  rintro e w' ⟨rfl, rfl⟩
  go_wp2
  go_loop [4, 5] (fun s i => ∃ k : Nat, k ≤ 8 ∧ i = .int .i64 (7 - (k : Int)) ∧ s = .int .i64 (rsubGo b k : Nat)) (fun _ i => (intOf i + 1).toNat)
  case atStart => exact ⟨0, by omega, rfl, rfl⟩
  case round =>
    obtain ⟨k, hk, rfl, rfl⟩ := hrel
    by_cases hlt : k < 8
    · have hs0 : rsubGo b k < 256 := Nat.lt_of_lt_of_le (rsubGo_lt b k hk) (Nat.le_trans (Nat.pow_le_pow_right (by omega) hk) (by decide))
      have hs : rsubGo b (k + 1) = 2 * rsubGo b k + (rbit b (7 - k) + rbit b (7 - k + 4) + rbit b (7 - k + 5) + rbit b (7 - k + 6) + rbit b (7 - k + 7) + rbit 99 (7 - k)) % 2 := rfl
      generalize rsubGo b k = s at hs0 hs
      have j0 : 7 - (k : Int) = ((7 - k : Nat) : Int) := by omega
      rw [j0]
      have j1 : 7 - k < 8 := by omega
      generalize hkk : 7 - k = m at hs j1
      have HK := Lib.hid hkk
      clear hkk j0
      have b0 := rbit_lt b m
      have b1 := rbit_lt b (m + 4)
      have b2 := rbit_lt b (m + 5)
      have b3 := rbit_lt b (m + 6)
      have b4 := rbit_lt b (m + 7)
      have b5 := rbit_lt 99 m
      have c0 := rBit_any b m hbl (by omega)
      have c1 := rBit_any b (m + 4) hbl (by omega)
      have c2 := rBit_any b (m + 5) hbl (by omega)
      have c3 := rBit_any b (m + 6) hbl (by omega)
      have c4 := rBit_any b (m + 7) hbl (by omega)
      have c5 := rBit_any 99 m (by omega) (by omega)
      generalize rbit b m = x0 at hs b0 c0
      generalize rbit b (m + 4) = x1 at hs b1 c1
      generalize rbit b (m + 5) = x2 at hs b2 c2
      generalize rbit b (m + 6) = x3 at hs b3 c3
      generalize rbit b (m + 7) = x4 at hs b4 c4
      generalize rbit 99 m = x5 at hs b5 c5
      have HS := Lib.hid hs
      have C0 := Lib.hid c0
      have C1 := Lib.hid c1
      have C2 := Lib.hid c2
      have C3 := Lib.hid c3
      have C4 := Lib.hid c4
      have C5 := Lib.hid c5
      clear hs c0 c1 c2 c3 c4 c5
      go_wp2_with fail
      refine (C0.out _).mono ?_
      rintro e w' ⟨rfl, rfl⟩
      go_wp2_with fail
      refine (C1.out _).mono ?_
      rintro e w' ⟨rfl, rfl⟩
      go_wp2_with fail
      refine (C2.out _).mono ?_
      rintro e w' ⟨rfl, rfl⟩
      go_wp2_with fail
      refine (C3.out _).mono ?_
      rintro e w' ⟨rfl, rfl⟩
      go_wp2_with fail
      refine (C4.out _).mono ?_
      rintro e w' ⟨rfl, rfl⟩
      go_wp2_with fail
      refine (C5.out _).mono ?_
      rintro e w' ⟨rfl, rfl⟩
      go_wp2
      go_round
      case rel => exact ⟨k + 1, by omega, by have := HK.out; go_num, by rw [HS.out]; go_num⟩
      case measure => simp [intOf]
    · obtain rfl : k = 8 := by omega
      go_wp2
      go_ret
      exact ⟨ret_u8 (by rw [HR.out]), rfl⟩

end Go.Proofs.YtakgebbeknfplaaGreat
