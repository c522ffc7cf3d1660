/-
  WALKS of the field of 256: the program's functions of bytes.
-/
import Derived.Test.YthcjemcimfbnhaaAesS
import Derived.WalkKit
import Derived.WalkSpells
import Derived.WalkLawsBesides
import Derived.Lib.Hide
import Derived.Deep.QuietTactic
import Derived.BigQuiet
namespace Go.Proofs.Ythcjemcimfbnhaa
open Go.RowKit
set_option linter.unusedVariables false

/-! bytes under the walk's own words -/
theorem bits_xor_u8 (a b : Nat) (ha : a < 256) (hb : b < 256) : bits .xor .u8 (a : Int) (b : Int) = ((a ^^^ b : Nat) : Int) := by
  have h : a ^^^ b < 2 ^ 8 := Nat.xor_lt_two_pow (by omega) (by omega)
  show IntKind.u8.wrap ((BitVec.ofInt 8 (a : Int) ^^^ BitVec.ofInt 8 (b : Int)).toNat : Int) = _
  rw [BitVec.toNat_xor, BitVec.ofInt_natCast, BitVec.ofInt_natCast, BitVec.toNat_ofNat, BitVec.toNat_ofNat, Nat.mod_eq_of_lt (by omega), Nat.mod_eq_of_lt (by omega)]
  show ((a ^^^ b : Nat) : Int) % 256 = _
  omega
theorem bits_or_u8 (a b : Nat) (ha : a < 256) (hb : b < 256) : bits .or .u8 (a : Int) (b : Int) = ((a ||| b : Nat) : Int) := by
  have h : a ||| b < 2 ^ 8 := Nat.or_lt_two_pow (by omega) (by omega)
  show IntKind.u8.wrap ((BitVec.ofInt 8 (a : Int) ||| BitVec.ofInt 8 (b : Int)).toNat : Int) = _
  rw [BitVec.toNat_or, BitVec.ofInt_natCast, BitVec.ofInt_natCast, BitVec.toNat_ofNat, BitVec.toNat_ofNat, Nat.mod_eq_of_lt (by omega), Nat.mod_eq_of_lt (by omega)]
  show ((a ||| b : Nat) : Int) % 256 = _
  omega
theorem xor_lt {a b : Nat} (ha : a < 256) (hb : b < 256) : a ^^^ b < 256 := Nat.xor_lt_two_pow (n := 8) (by omega) (by omega)
theorem or_lt {a b : Nat} (ha : a < 256) (hb : b < 256) : a ||| b < 256 := Nat.or_lt_two_pow (n := 8) (by omega) (by omega)
theorem ret_u8 {a : Int} {b : Nat} (h : a = b) : Ending.returned (.int .u8 a) = .returned (.int .u8 (b : Int)) := by rw [h]

theorem dbl_lt : ∀ a, a < 256 → dbl a < 256 := by decide +kernel
theorem dbl_hi : ∀ a : Nat, a < 256 → (bits BinOp.and IntKind.u8 (a : Int) 128 != 0) = true → bits BinOp.xor IntKind.u8 ((a : Int) * 2 % 256) 27 = ((dbl a : Nat) : Int) := by decide +kernel
theorem dbl_lo : ∀ a : Nat, a < 256 → (bits BinOp.and IntKind.u8 (a : Int) 128 != 0) = false → (a : Int) * 2 % 256 = ((dbl a : Nat) : Int) := by decide +kernel

set_option maxRecDepth 100000 in
set_option maxHeartbeats 400000 in
theorem dbl_any (a : Nat) (ha : a < 256) (w : World) :
    Calls Try.prog 190 #[.int .u8 (a : Int)] w fun e w' => e = .returned (.int .u8 (dbl a : Nat)) ∧ w = w' := by
  have h1 := dbl_hi a ha
  have h2 := dbl_lo a ha
  generalize dbl a = r at h1 h2
  cases h : (bits BinOp.and IntKind.u8 (a : Int) 128 != 0)
  · have H2 := Lib.hid (h2 h)
    clear h1 h2
    go_enter Try.func190, Try.ntmps190
    go_wp2
    go_ret
    exact ⟨ret_u8 H2.out, rfl⟩
  · have H1 := Lib.hid (h1 h)
    clear h1 h2
    go_enter Try.func190, Try.ntmps190
    go_wp2
    go_ret
    exact ⟨ret_u8 H1.out, rfl⟩

theorem mulGo_lt : ∀ f a b c, a < 256 → c < 256 → mulGo f a b c < 256
  | 0, a, b, c, ha, hc => hc
  | f + 1, a, b, c, ha, hc => by
    simp only [mulGo]
    split
    · exact hc
    · refine mulGo_lt f _ _ _ (dbl_lt a ha) ?_
      split
      · exact xor_lt hc ha
      · exact hc
theorem gmul_lt {a : Nat} (b : Nat) (ha : a < 256) : gmul a b < 256 := mulGo_lt 8 a b 0 ha (by omega)
theorem mulGo_zero : ∀ f a c, mulGo f a 0 c = c
  | 0, _, _ => rfl
  | f + 1, _, _ => by simp [mulGo]
theorem odd_u8 : ∀ b : Nat, b < 256 → (bits BinOp.and IntKind.u8 (b : Int) 1 != 0) = decide (b % 2 = 1) := by decide +kernel
theorem mulGo_step {f A B C R : Nat} (hf : B < 2 ^ f) (hm : mulGo f A B C = R) (hB : B ≠ 0) : ∃ f', B / 2 < 2 ^ f' ∧ mulGo f' (dbl A) (B / 2) (if B % 2 = 1 then C ^^^ A else C) = R := by
  cases f with
  | zero => omega
  | succ f =>
    simp only [mulGo, if_neg hB] at hm
    exact ⟨f, by rw [Nat.pow_succ] at hf; omega, hm⟩

set_option maxRecDepth 100000 in
set_option maxHeartbeats 400000 in
theorem mul_any (a b : Nat) (ha : a < 256) (hb : b < 256) (w : World) :
    Calls Try.prog 181 #[.int .u8 (a : Int), .int .u8 (b : Int)] w fun e w' => e = .returned (.int .u8 (gmul a b : Nat)) ∧ w = w' := by
  generalize hr : gmul a b = R
  have HR := Lib.hid hr
  clear hr
  go_enter Try.func181, Try.ntmps181
  go_wp2
  go_loop [0, 1, 5] (fun x y z => ∃ A B C f : Nat, A < 256 ∧ B < 256 ∧ C < 256 ∧ B < 2 ^ f ∧ mulGo f A B C = R ∧ x = .int .u8 A ∧ y = .int .u8 B ∧ z = .int .u8 C) (fun _ y _ => (intOf y).toNat)
  case atStart => exact ⟨a, b, 0, 8, ha, hb, by omega, hb, HR.out, rfl, rfl, rfl⟩
  case round =>
    obtain ⟨A, B, C, f, hA, hB, hC, hf, hm, rfl, rfl, rfl⟩ := hrel
    by_cases h0 : B = 0
    · have HM := Lib.hid hm
      subst h0
      clear hm hf
      go_wp2
      go_ret
      exact ⟨ret_u8 (by rw [← HM.out, mulGo_zero]), rfl⟩
    · obtain ⟨f', hf', hm'⟩ := mulGo_step hf hm h0
      have h0' : ((B : Int) != 0) = true := by simp; omega
      have hx := bits_xor_u8 C A hC hA
      have hxl := xor_lt hC hA
      have hdl := dbl_lt A hA
      have hod := odd_u8 B hB
      have HM := Lib.hid hm'
      have HF := Lib.hid hf'
      clear hm hm' hf hf'
      by_cases h1 : B % 2 = 1
      · have H1 := Lib.hid h1
        rw [decide_eq_true h1] at hod
        clear h1
        generalize C ^^^ A = X at hx hxl HM
        go_wp2_with (go_at_call 190; refine (dbl_any _ hA _).mono ?_; rintro e w' ⟨rfl, rfl⟩)
        go_round
        case rel => exact ⟨dbl A, B / 2, X, f', hdl, by omega, hxl, HF.out, by have := HM.out; rw [if_pos H1.out] at this; exact this, rfl, by go_num, rfl⟩
        case measure => simp [intOf]; omega
      · have H1 := Lib.hid h1
        rw [decide_eq_false h1] at hod
        clear h1
        go_wp2_with (go_at_call 190; refine (dbl_any _ hA _).mono ?_; rintro e w' ⟨rfl, rfl⟩)
        go_round
        case rel => exact ⟨dbl A, B / 2, C, f', hdl, by omega, hC, HF.out, by have := HM.out; rw [if_neg H1.out] at this; exact this, rfl, by go_num, rfl⟩
        case measure => simp [intOf]; omega

theorem powGo_zero : ∀ f a c, powGo f a 0 c = c
  | 0, _, _ => rfl
  | f + 1, _, _ => by simp [powGo]
theorem powGo_step {f A n C R : Nat} (hf : n < 2 ^ f) (hm : powGo f A n C = R) (hn : n ≠ 0) : ∃ f', n / 2 < 2 ^ f' ∧ powGo f' (gmul A A) (n / 2) (if n % 2 = 1 then gmul C A else C) = R := by
  cases f with
  | zero => omega
  | succ f =>
    simp only [powGo, if_neg hn] at hm
    exact ⟨f, by rw [Nat.pow_succ] at hf; omega, hm⟩
theorem powGo_lt : ∀ f a n c, a < 256 → c < 256 → powGo f a n c < 256
  | 0, a, n, c, ha, hc => hc
  | f + 1, a, n, c, ha, hc => by
    simp only [powGo]
    split
    · exact hc
    · refine powGo_lt f _ _ _ (gmul_lt _ ha) ?_
      split
      · exact gmul_lt _ hc
      · exact hc
theorem ginv_lt {a : Nat} (ha : a < 256) : ginv a < 256 := powGo_lt 32 a 254 1 ha (by omega)
theorem odd_u32 (n : Nat) (hn : n < 4294967296) : (bits BinOp.and IntKind.u32 (n : Int) 1 != 0) = decide (n % 2 = 1) := by
  have e : bits BinOp.and IntKind.u32 (n : Int) 1 = ((n % 2 : Nat) : Int) := by
    show IntKind.u32.wrap ((BitVec.ofInt 32 (n : Int) &&& BitVec.ofInt 32 1).toNat : Int) = _
    have h1 : (BitVec.ofInt 32 1).toNat = 2 ^ 1 - 1 := by decide
    rw [BitVec.toNat_and, h1, Nat.and_two_pow_sub_one_eq_mod, BitVec.ofInt_natCast, BitVec.toNat_ofNat]
    show ((n % 2 ^ 32 % 2 ^ 1 : Nat) : Int) % 4294967296 = _
    omega
  rw [e]
  rcases Nat.mod_two_eq_zero_or_one n with h | h <;> rw [h] <;> rfl

set_option maxRecDepth 100000 in
set_option maxHeartbeats 400000 in
theorem pow_any (a n : Nat) (ha : a < 256) (hn : n < 4294967296) (w : World) :
    Calls Try.prog 157 #[.int .u8 (a : Int), .int .u32 (n : Int)] w fun e w' => e = .returned (.int .u8 (gpow a n : Nat)) ∧ w = w' := by
  generalize hr : gpow a n = R
  have HR := Lib.hid hr
  clear hr
  go_enter Try.func157, Try.ntmps157
  go_wp2
  go_loop [0, 1, 5] (fun x y z => ∃ A N C f : Nat, A < 256 ∧ N < 4294967296 ∧ C < 256 ∧ N < 2 ^ f ∧ powGo f A N C = R ∧ x = .int .u8 A ∧ y = .int .u32 N ∧ z = .int .u8 C) (fun _ y _ => (intOf y).toNat)
  case atStart => exact ⟨a, n, 1, 32, ha, hn, by omega, hn, HR.out, rfl, rfl, rfl⟩
  case round =>
    obtain ⟨A, N, C, f, hA, hN, hC, hf, hm, rfl, rfl, rfl⟩ := hrel
    by_cases h0 : N = 0
    · have HM := Lib.hid hm
      subst h0
      clear hm hf
      go_wp2
      go_ret
      exact ⟨ret_u8 (by rw [← HM.out, powGo_zero]), rfl⟩
    · obtain ⟨f', hf', hm'⟩ := powGo_step hf hm h0
      have h0' : (0 : Int) < (N : Int) := by omega
      have hxl := gmul_lt A hC
      have hdl := gmul_lt A hA
      have hod := odd_u32 N hN
      have HM := Lib.hid hm'
      have HF := Lib.hid hf'
      clear hm hm' hf hf'
      by_cases h1 : N % 2 = 1
      · have H1 := Lib.hid h1
        rw [decide_eq_true h1] at hod
        clear h1
        go_wp2_with fail
        refine (mul_any C A hC hA _).mono ?_
        rintro e w' ⟨rfl, rfl⟩
        go_wp2_with fail
        refine (mul_any A A hA hA _).mono ?_
        rintro e w' ⟨rfl, rfl⟩
        go_wp2
        go_round
        case rel => exact ⟨gmul A A, N / 2, gmul C A, f', hdl, by omega, hxl, HF.out, by have := HM.out; rw [if_pos H1.out] at this; exact this, rfl, by go_num, rfl⟩
        case measure => simp [intOf]; omega
      · have H1 := Lib.hid h1
        rw [decide_eq_false h1] at hod
        clear h1
        go_wp2_with fail
        refine (mul_any A A hA hA _).mono ?_
        rintro e w' ⟨rfl, rfl⟩
        go_wp2
        go_round
        case rel => exact ⟨gmul A A, N / 2, C, f', hdl, by omega, hC, HF.out, by have := HM.out; rw [if_neg H1.out] at this; exact this, rfl, by go_num, rfl⟩
        case measure => simp [intOf]; omega

set_option maxRecDepth 100000 in
set_option maxHeartbeats 400000 in
theorem inv_any (a : Nat) (ha : a < 256) (w : World) :
    Calls Try.prog 158 #[.int .u8 (a : Int)] w fun e w' => e = .returned (.int .u8 (ginv a : Nat)) ∧ w = w' := by
  go_enter Try.func158, Try.ntmps158
  go_wp2_with fail
  refine (pow_any a 254 ha (by omega) _).mono ?_
  rintro e w' ⟨rfl, rfl⟩
  go_wp2
  go_ret
  exact ⟨rfl, rfl⟩

theorem rot_lt {a n : Nat} (ha : a < 256) : rot a n < 256 := or_lt (Nat.mod_lt _ (by omega)) (Nat.lt_of_le_of_lt (Nat.div_le_self _ _) ha)
theorem rot_eq (a n : Nat) (ha : a < 256) : bits BinOp.or IntKind.u8 ((a : Int) * 2 ^ n % 256) ((a : Int) / 2 ^ (8 - n)) = ((rot a n : Nat) : Int) := by
  have h1 : (a : Int) * 2 ^ n % 256 = ((a * 2 ^ n % 256 : Nat) : Int) := by simp
  have h2 : (a : Int) / 2 ^ (8 - n) = ((a / 2 ^ (8 - n) : Nat) : Int) := by simp
  rw [h1, h2, bits_or_u8 _ _ (Nat.mod_lt _ (by omega)) (Nat.lt_of_le_of_lt (Nat.div_le_self _ _) ha)]
  rfl

set_option maxRecDepth 100000 in
set_option maxHeartbeats 400000 in
theorem round_any (a : Nat) (n : Nat) (ha : a < 256) (h0 : 1 ≤ n) (h1 : n ≤ 7) (w : World) :
    Calls Try.prog 159 #[.int .u8 (a : Int), .int .i64 (n : Int)] w fun e w' => e = .returned (.int .u8 (rot a n : Nat)) ∧ ∃ m, w' = w.drewN m := by
  have H := Lib.hid (rot_eq a n ha)
  have hw8 : IntKind.i64.wrap (8 - (n : Int)) = 8 - (n : Int) := IntWalk.i64_in _ (by omega)
  have h8 : (0 : Int) ≤ 8 - (n : Int) := by omega
  have h9 : (8 - (n : Int)).toNat = 8 - n := by omega
  go_enter Try.func159, Try.ntmps159
  go_wp2
  go_quiet (fail)
  go_wp2
  go_ret
  exact ⟨ret_u8 H.out, _, rfl⟩

set_option maxRecDepth 100000 in
set_option maxHeartbeats 400000 in
theorem sub_any (a : Nat) (ha : a < 256) (w : World) :
    Calls Try.prog 134 #[.int .u8 (a : Int)] w fun e w' => e = .returned (.int .u8 (sbox a : Nat)) ∧ ∃ m, w' = w.drewN m := by
  have hs : gsub a = sbox a := gsub_sbox a ha
  unfold gsub at hs
  have hi := inv_any a ha
  have hil := ginv_lt ha
  generalize ginv a = b at hs hi hil
  have c1 := round_any b 1 hil (by omega) (by omega)
  have c2 := round_any b 2 hil (by omega) (by omega)
  have c3 := round_any b 3 hil (by omega) (by omega)
  have c4 := round_any b 4 hil (by omega) (by omega)
  have l1 := rot_lt (n := 1) hil
  have l2 := rot_lt (n := 2) hil
  have l3 := rot_lt (n := 3) hil
  have l4 := rot_lt (n := 4) hil
  generalize rot b 1 = r1 at hs c1 l1
  generalize rot b 2 = r2 at hs c2 l2
  generalize rot b 3 = r3 at hs c3 l3
  generalize rot b 4 = r4 at hs c4 l4
  have x1 := bits_xor_u8 b r1 hil l1
  have y1 := xor_lt hil l1
  generalize b ^^^ r1 = s1 at hs x1 y1
  have x2 := bits_xor_u8 s1 r2 y1 l2
  have y2 := xor_lt y1 l2
  generalize s1 ^^^ r2 = s2 at hs x2 y2
  have x3 := bits_xor_u8 s2 r3 y2 l3
  have y3 := xor_lt y2 l3
  generalize s2 ^^^ r3 = s3 at hs x3 y3
  have x4 := bits_xor_u8 s3 r4 y3 l4
  have y4 := xor_lt y3 l4
  generalize s3 ^^^ r4 = s4 at hs x4 y4
  have x5 : bits .xor .u8 (s4 : Int) 99 = ((s4 ^^^ 99 : Nat) : Int) := bits_xor_u8 s4 99 y4 (by omega)
  have HS := Lib.hid hs
  have HI := Lib.hid hi
  have C1 := Lib.hid c1
  have C2 := Lib.hid c2
  have C3 := Lib.hid c3
  have C4 := Lib.hid c4
  clear hs hi c1 c2 c3 c4
  go_enter Try.func134, Try.ntmps134
  go_wp2_with fail
  refine (HI.out _).mono ?_
  rintro e w' ⟨rfl, rfl⟩
  go_wp2_with fail
  refine (C1.out _).mono ?_
  rintro e w' ⟨rfl, m1, rfl⟩
  go_wp2_with fail
  refine (C2.out _).mono ?_
  rintro e w' ⟨rfl, m2, rfl⟩
  go_wp2_with fail
  refine (C3.out _).mono ?_
  rintro e w' ⟨rfl, m3, rfl⟩
  go_wp2_with fail
  refine (C4.out _).mono ?_
  rintro e w' ⟨rfl, m4, rfl⟩
  go_wp2
  go_ret
  exact ⟨ret_u8 (by rw [HS.out]), _, rfl⟩

end Go.Proofs.Ythcjemcimfbnhaa
