/-
  CAPS: Attach, Give, Check, Rights; known; CapsNone: walks.
-/
import Derived.Test.YtnnjmelibmiimaaGreatBdc
import Derived.Sort.WalkA
import Derived.Lib.Walk
import Derived.WalkKit
import Derived.BigQuiet
import Derived.Deep.Draws
import Derived.Deep.QuietTactic
import Derived.Test.YtnnjmelibmiimaaGreatBda
import Derived.Sort.WalkB12
import Derived.Sort.WalkD1
import Derived.Sort.WalkD2
import Derived.Deep.RegionWith
import Derived.Sort.Walk7a
import Derived.Sort.Walk7
import Derived.Ground.So_math_bits_Len64
import Derived.Deep.Light
import Derived.Sort.Walk11
import Derived.Sort.WalkB2
import Derived.Sort.WalkB3
import Derived.Sort.WalkC
import Derived.Sort.WalkC4
import Derived.Sort.WalkA6
import Derived.Sort.Walk13
import Derived.Sort.LotD6
import Derived.Sort.WalkA14
import Derived.Sort.LotD7
import Derived.Sort.AssemblyPlain
import Derived.RangeFuncNested
import Derived.RangeFuncBound
import Derived.RangeFuncCalls
import Derived.RangeFuncLeaves
import Derived.RangeFuncBox
import Derived.OwnWalkIn
import Derived.TacticsInMore
import Derived.LoopNIn
import Derived.LoopIn
import Derived.Sort.LoopGhostIn
import Derived.Sort.MapsRangeIn
import Derived.Maps.OwnIn
import Derived.Shelf.Abstract
namespace Go.Proofs.YtnnjmelibmiimaaGreat
open Go.RowKit
set_option linter.unusedVariables false

/-- a put, or a refusal -/
def PutA (B c made : Nat) (x : Nat × Nat) (mo : Option Nat) (l : CpL) (w : World) (e : Ending) (w' : World) : Prop :=
  (l.length < 64 ∧ PutP B c made x mo l w e w') ∨ (64 ≤ l.length ∧ e = .returned (.tuple #[.int .u64 0, .int .i64 9]) ∧ Below w.heap.size w w')
theorem cput_any (B c made : Nat) (x : Nat × Nat) (mo : Option Nat) (l : CpL) (w : World) (h : CpB w B c mo made l) (hl : l.length ≤ 1000) (hm : made < 9223372036854775807) :
    Calls Tryz.prog 109 #[.pointer (some ⟨c, 0, none⟩), hdV x] w (PutA B c made x mo l w) := by
  by_cases h64 : l.length < 64
  · cases mo with
    | some m => exact (put_some B c made m x l w h h64 hm).mono fun e w' hp => .inl ⟨h64, hp⟩
    | none => exact (put_none B c made x l w h h64 hm).mono fun e w' hp => .inl ⟨h64, hp⟩
  · exact (put_full B c made x mo l w h (by omega) hl).mono fun e w' hp => .inr ⟨by omega, hp⟩
theorem PutA.back {B c made : Nat} {x : Nat × Nat} {mo : Option Nat} {l : CpL} {w w1 w' : World} {e : Ending} (hb : Below w.heap.size w w1) (h : PutA B c made x mo l w1 e w') : PutA B c made x mo l w e w' := by
  rcases h with ⟨h1, m', h2, h3, h4⟩ | ⟨h1, h2, h3⟩
  · exact .inl ⟨h1, m', h2, h3, (Fr.of hb _).tr h4.1, h4.2.imp id fun h => ⟨h.1, Nat.le_trans hb.size h.2⟩⟩
  · exact .inr ⟨h1, h2, below_tr hb h3 hb.size⟩
set_option maxRecDepth 100000 in
theorem attach_any (B c made : Nat) (mo : Option Nat) (l : CpL) (w : World) (h : CpB w B c mo made l) (hl : l.length ≤ 1000) (hm : made < 9223372036854775807) :
    Calls Tryz.prog 76 #[.pointer (some ⟨c, 0, none⟩)] w (PutA B c made (15, 0) mo l w) := by
  have HP := Lib.hid (cput_any B c made (15, 0) mo l w h hl hm)
  unfold hdV at HP
  clear h hl hm
  go_enter Tryz.func76, Tryz.ntmps76
  go_wp2_with fail
  refine HP.out.mono ?_
  rintro e w1 hp
  have hp2 := Lib.hid hp
  rcases hp with ⟨h1, m', rfl, h3, h4⟩ | ⟨h1, rfl, h3⟩
  all_goals
    clear HP
    go_wp2_with fail
    go_ret2
    exact hp2.out
/-- may rights not be given on; are some of them none of its own? -/
def noGive (x : Nat) : Bool := bits .and .u8 (x : Int) 8 == 0
def overR (r x : Nat) : Bool := bits .andNot .u8 (r : Int) (x : Int) != 0
def giveE (h r : Nat) (l : CpL) : Nat := match getC h l with
  | some x => bif noGive x.1 || overR r x.1 then 250 else 0
  | none => 7
def GiveR (B c made h r : Nat) (mo : Option Nat) (l : CpL) (w : World) (e : Ending) (w' : World) : Prop :=
  (giveE h r l ≠ 0 ∧ e = .returned (.tuple #[.int .u64 0, .int .i64 (giveE h r l : Int)]) ∧ Below w.heap.size w w') ∨ (giveE h r l = 0 ∧ PutA B c made (r, h) mo l w e w')
set_option maxRecDepth 100000 in
set_option maxHeartbeats 1000000 in
theorem give_any (B c made h r : Nat) (mo : Option Nat) (l : CpL) (w : World) (hc : CpB w B c mo made l) (hk : u64Ok h) (hl : l.length ≤ 1000) (hm : made < 9223372036854775807) :
    Calls Tryz.prog 79 #[.pointer (some ⟨c, 0, none⟩), .int .u64 (h : Int), .int .u8 (r : Int)] w (GiveR B c made h r mo l w) := by
  have HF := Lib.hid (find_any B c made h mo l w hc hk)
  have HC := Lib.hid hc
  have HP := Lib.hid fun W hW => cput_any B c made (r, h) mo l W hW hl hm
  unfold findP at HF
  unfold GiveR giveE
  cases hg : getC h l with
  | none =>
    rw [hg] at HF
    simp only [Option.getD_none, Option.isSome_none, Bool.false_eq_true, if_false] at HF
    unfold hdV at HF
    clear hc hk hl hm HP hg
    go_enter Tryz.func79, Tryz.ntmps79
    go_wp2_with fail
    refine HF.out.mono ?_
    rintro e w1 ⟨rfl, hb⟩
    have B1 := Lib.hid hb
    clear hb HF
    go_wp2_with fail
    go_ret2
    exact .inl ⟨by decide, rfl, B1.out.alloc B1.out.size _⟩
  | some x =>
    rw [hg] at HF
    simp only [Option.getD_some, Option.isSome_some, if_true] at HF
    unfold hdV at HF HP
    have d1 : (bits .and .u8 (x.1 : Int) 8 == 0) = noGive x.1 := rfl
    have d2 : (bits .andNot .u8 (r : Int) (x.1 : Int) != 0) = overR r x.1 := rfl
    simp only
    generalize noGive x.1 = b1 at *
    generalize overR r x.1 = b2 at *
    clear hc hk hl hm hg
    cases b1
    · cases b2
      · go_enter Tryz.func79, Tryz.ntmps79
        go_wp2_with fail
        refine HF.out.mono ?_
        rintro e w1 ⟨rfl, hb⟩
        have B1 := Lib.hid hb
        have B2 : Hid (Below w.heap.size w (w1.alloc (.cells #[.int .u8 (x.1 : Int), .int .u64 (x.2 : Int)] 105))) := Lib.hid (hb.alloc hb.size _)
        clear hb HF
        go_wp2_with fail
        refine (HP.out _ (HC.out.ab B2.out)).mono ?_
        rintro e w3 hp
        have hp2 := Lib.hid (PutA.back B2.out hp)
        rcases hp with ⟨h1, m', rfl, h3, h4⟩ | ⟨h1, rfl, h3⟩
        all_goals
          clear HP HC B1 B2
          go_wp2_with fail
          go_ret2
          exact .inr ⟨rfl, hp2.out⟩
      · go_enter Tryz.func79, Tryz.ntmps79
        go_wp2_with fail
        refine HF.out.mono ?_
        rintro e w1 ⟨rfl, hb⟩
        have B1 := Lib.hid hb
        have B2 : Hid (Below w.heap.size w (w1.alloc (.cells #[.int .u8 (x.1 : Int), .int .u64 (x.2 : Int)] 105))) := Lib.hid (hb.alloc hb.size _)
        clear hb HF
        go_wp2_with fail
        go_ret2
        exact .inl ⟨by simp, rfl, B2.out⟩
    · go_enter Tryz.func79, Tryz.ntmps79
      go_wp2_with fail
      refine HF.out.mono ?_
      rintro e w1 ⟨rfl, hb⟩
      have B1 := Lib.hid hb
      have B2 : Hid (Below w.heap.size w (w1.alloc (.cells #[.int .u8 (x.1 : Int), .int .u64 (x.2 : Int)] 105))) := Lib.hid (hb.alloc hb.size _)
      clear hb HF
      go_wp2_with fail
      go_ret2
      exact .inl ⟨by simp, rfl, B2.out⟩
end Go.Proofs.YtnnjmelibmiimaaGreat
namespace Go.Proofs.YtnnjmelibmiimaaGreat.U64
open Go.RowKit Go.Sort
set_option linter.unusedVariables false
abbrev encE : Int → Value := fun x => Value.int .u64 x


open Go.RowKit Go.Sort
/-! ### Outside the walk: what each way of a round does to the plain functions -/
section
variable {α : Type} [Inhabited α] (lt : α → α → Bool)
end

/-! ### Outside the walk: the world behind draws, behind a swap -/
section
variable {α : Type} [Inhabited α] (enc : α → Value)
end

theorem holds_asideE {w : World} {blk off sb so n t : Nat} {d : Array Int} (h : Holds (Value.int .u64) w blk off d) (hne : sb ≠ blk) : Holds (Value.int .u64) (putRow (Value.int .i64) (Sort.ahead w n) sb so (one t)) blk off d := fun j hj =>
  ⟨(cell?_putRow_other _ _ _ _ _ _ (Or.inl (Ne.symm hne))).trans (h j hj).1, (frozen?_putRow ..).trans (h j hj).2⟩

open Go.Sort Go.RowKit

open Go.Sort Go.RowKit

open Go.Sort Go.RowKit
set_option maxRecDepth 100000 in
theorem len8tab_size : (Lib.len8tab.size : Int) = 256 := by
  have : Lib.len8tab.size = 256 := by decide
  omega
/-- THE LAST STEP OF EACH OF THE EIGHT WAYS, PROVED ONCE, OUTSIDE: 'omega' on it INSIDE the way's context (a chain of divisions by great numbers) took 25 s a way and gigabytes. -/
theorem wrap_add (k a b : Nat) (hk : k ≤ 56) (ha : a ≤ 8) (hb : b = k + a) : RowKit.wrap64 ((k : Int) + RowKit.wrap64 (a : Int)) = (b : Int) := by
  unfold RowKit.wrap64
  omega
theorem wrap_wrap (a : Nat) (ha : a ≤ 8) : RowKit.wrap64 (RowKit.wrap64 (a : Int)) = (a : Int) := by
  unfold RowKit.wrap64
  omega
theorem wrap_one (a : Nat) (ha : a ≤ 8) : RowKit.wrap64 (a : Int) = (a : Int) := by
  unfold RowKit.wrap64
  omega
/-- The table's byte, as an index's plain meaning reads it, IS the shelf's 'Lib.len8'. -/
theorem len8_get (y : Int) (h : y.toNat < Lib.len8tab.size) : ((Lib.len8tab[y.toNat]'h).toNat : Int) = Lib.len8 y := by
  unfold Lib.len8
  rw [getElem?_pos Lib.len8tab y.toNat h]
  rfl

set_option maxHeartbeats 32000000 in
set_option maxRecDepth 1000000 in
/-- bits.Len64: "Len64 returns the minimum number of bits required to represent x; the result is 0 for x == 0.": IT RETURNS 'Lib.bitLen x'; the world is as it was. ('h0', 'h1': x is a uint64.) -/
theorem s_bits_Len64 (x : Int) (w : World) (h0 : 0 ≤ x) (h1 : x ≤ 18446744073709551615) :
    Calls Tryz.prog 140 #[.int .u64 x] w fun e w' => e = .returned (.int .i64 (Lib.bitLen x.toNat)) ∧ w' = w := by
  go_enter Tryz.func140, Tryz.ntmps140
  go_wp2
  -- ✋ INSIDE THE FENCE THE WALK LEAVES SIXTEEN GOALS FOR THE PLAIN WALK's EIGHT: the table's look-up ('len8tab[..]') is run by the plain meaning of an index, not by the shelf's law 'run_index_len8tab_mod' (the byte stands there without its '% 256'): so 'out of range' is not pruned: EIGHT GOALS THAT CANNOT BE: the table has 256 bytes
  -- (✋ THE ORDER OF THE TWO MATTERS: 'go_ret' fails at once where it does not fit; 'exfalso; omega' FIRST would be run on the eight goals that are NOT absurd too, and an 'omega' that must FAIL over divisions by such numbers does not come to an end: 8 GB in three minutes)
  all_goals first
    | (go_ret; refine ⟨congrArg Ending.returned (congrArg (Value.int IntKind.i64) ?_), rfl⟩; go_light)
    | (exfalso
       go_light
       have hs := len8tab_size
       omega)
  all_goals first
    | (rw [len8_get (x / 4294967296 / 65536 / 256) _, Lib.len8_of (x / 4294967296 / 65536 / 256) (by omega) (by omega)]
       have e : (x / 4294967296 / 65536 / 256).toNat = x.toNat / 72057594037927936 := by omega
       have l := Lib.bitLen_le8' (x / 4294967296 / 65536 / 256) (by omega) (by omega)
       have s := Lib.bitLen_shift56 x.toNat (by omega) (by omega)
       rw [e] at l ⊢
       exact wrap_add 56 _ _ (by decide) l s)
    | (rw [len8_get (x / 4294967296 / 65536) _, Lib.len8_of (x / 4294967296 / 65536) (by omega) (by omega)]
       have e : (x / 4294967296 / 65536).toNat = x.toNat / 281474976710656 := by omega
       have l := Lib.bitLen_le8' (x / 4294967296 / 65536) (by omega) (by omega)
       have s := Lib.bitLen_shift48 x.toNat (by omega) (by omega)
       rw [e] at l ⊢
       exact wrap_add 48 _ _ (by decide) l s)
    | (rw [len8_get (x / 4294967296 / 256) _, Lib.len8_of (x / 4294967296 / 256) (by omega) (by omega)]
       have e : (x / 4294967296 / 256).toNat = x.toNat / 1099511627776 := by omega
       have l := Lib.bitLen_le8' (x / 4294967296 / 256) (by omega) (by omega)
       have s := Lib.bitLen_shift40 x.toNat (by omega) (by omega)
       rw [e] at l ⊢
       exact wrap_add 40 _ _ (by decide) l s)
    | (rw [len8_get (x / 4294967296) _, Lib.len8_of (x / 4294967296) (by omega) (by omega)]
       have e : (x / 4294967296).toNat = x.toNat / 4294967296 := by omega
       have l := Lib.bitLen_le8' (x / 4294967296) (by omega) (by omega)
       have s := Lib.bitLen_shift32 x.toNat (by omega) (by omega)
       rw [e] at l ⊢
       exact wrap_add 32 _ _ (by decide) l s)
    | (rw [len8_get (x / 65536 / 256) _, Lib.len8_of (x / 65536 / 256) (by omega) (by omega)]
       have e : (x / 65536 / 256).toNat = x.toNat / 16777216 := by omega
       have l := Lib.bitLen_le8' (x / 65536 / 256) (by omega) (by omega)
       have s := Lib.bitLen_shift24 x.toNat (by omega) (by omega)
       rw [e] at l ⊢
       exact wrap_add 24 _ _ (by decide) l s)
    | (rw [len8_get (x / 65536) _, Lib.len8_of (x / 65536) (by omega) (by omega)]
       have e : (x / 65536).toNat = x.toNat / 65536 := by omega
       have l := Lib.bitLen_le8' (x / 65536) (by omega) (by omega)
       have s := Lib.bitLen_shift16 x.toNat (by omega) (by omega)
       rw [e] at l ⊢
       exact wrap_add 16 _ _ (by decide) l s)
    | (rw [len8_get (x / 256) _, Lib.len8_of (x / 256) (by omega) (by omega)]
       have e : (x / 256).toNat = x.toNat / 256 := by omega
       have l := Lib.bitLen_le8' (x / 256) (by omega) (by omega)
       have s := Lib.bitLen_shift8 x.toNat (by omega) (by omega)
       rw [e] at l ⊢
       exact wrap_add 8 _ _ (by decide) l s)
    | (rw [len8_get (x) _, Lib.len8_of (x) (by omega) (by omega)]
       have e : (x).toNat = x.toNat := by omega
       have l := Lib.bitLen_le8' (x) (by omega) (by omega)
       rw [e] at l ⊢
       first | exact wrap_wrap _ l | exact wrap_add 0 _ _ (by decide) l (by omega) | exact wrap_one _ l)



set_option maxHeartbeats 32000000 in
set_option maxRecDepth 1000000 in
/-- bits.Len: "Len returns the minimum number of bits required to represent x; the result is 0 for x == 0.": IT RETURNS 'Lib.bitLen x'; the world is as it was. (A uint has 64 bits in the model.) ITS CALLEE bits.Len64 IS MET BY ITS OWN CONTRACT OFF THE SHELF (lay that first). -/
theorem s_bits_Len (x : Int) (w : World) (h0 : 0 ≤ x) (h1 : x ≤ 18446744073709551615) :
    Calls Tryz.prog 125 #[.int .u64 x] w fun e w' => e = .returned (.int .i64 (Lib.bitLen x.toNat)) ∧ w' = w := by
  go_enter Tryz.func125, Tryz.ntmps125
  go_wp2_with (go_at_call 140; refine (s_bits_Len64 x _ h0 h1).mono ?_; rintro e w' ⟨rfl, rfl⟩)
  go_ret
  exact ⟨rfl, rfl⟩


open Go.RowKit Go.Sort

set_option maxHeartbeats 32000000 in
set_option maxRecDepth 1000000 in
/-- WALK 7a, its first half: '*r ^= *r << 13; *r ^= *r >> 7; *r ^= *r << 17; return uint64(*r)': the cell holds 'xorNextN X' and that is handed back; three draws; nothing else turns. -/
theorem s_xorshift_Next (rb ro X : Nat) (hX : X < 18446744073709551616) (w : World) (hc : w.cell? ⟨rb, ro, none⟩ = some (.int .u64 X)) (hf : w.frozen? ⟨rb, ro, none⟩ = false) :
    Calls Tryz.prog 153 #[.pointer (some ⟨rb, ro, none⟩)] w fun e w' => e = .returned (.int .u64 (xorNextN X : Nat)) ∧ w' = (w.setCell ⟨rb, ro, none⟩ (.int .u64 (xorNextN X : Nat))).drewN 3 := by
  -- the three numbers under names of their own; an equation a step, in the walk's own spelling
  obtain ⟨A, hA⟩ : ∃ A : Nat, A = X ^^^ (X * 8192 % 18446744073709551616) := ⟨_, rfl⟩
  obtain ⟨B, hB⟩ : ∃ B : Nat, B = A ^^^ (A / 128) := ⟨_, rfl⟩
  obtain ⟨C, hC⟩ : ∃ C : Nat, C = B ^^^ (B * 131072 % 18446744073709551616) := ⟨_, rfl⟩
  have lA : A < 18446744073709551616 := by rw [hA]; exact Nat.xor_lt_two_pow (n := 64) (by omega) (by omega)
  have lB : B < 18446744073709551616 := by rw [hB]; exact Nat.xor_lt_two_pow (n := 64) (by omega) (by omega)
  have e1 : bits .xor .u64 (X : Int) (IntKind.u64.wrap ((X : Int) * 8192)) = (A : Int) := by
    rw [IntKind.wrap_u64, show ((X : Int) * 8192 % 18446744073709551616) = ((X * 8192 % 18446744073709551616 : Nat) : Int) by omega, bits_xor_u64_nat _ _ hX (by omega), hA]
  have e2 : bits .xor .u64 (A : Int) ((A : Int) / 128) = (B : Int) := by
    rw [show ((A : Int) / 128) = ((A / 128 : Nat) : Int) by omega, bits_xor_u64_nat _ _ lA (by omega), hB]
  have e3 : bits .xor .u64 (B : Int) (IntKind.u64.wrap ((B : Int) * 131072)) = (C : Int) := by
    rw [IntKind.wrap_u64, show ((B : Int) * 131072 % 18446744073709551616) = ((B * 131072 % 18446744073709551616 : Nat) : Int) by omega, bits_xor_u64_nat _ _ lB (by omega), hC]
  have hv : xorNextN X = C := by unfold xorNextN; simp only []; rw [← hA, ← hB, ← hC]
  rw [hv]
  clear hA hB hC hv
  -- the stores are not let pile up: behind three of them the last load stood still
  have hss : ∀ v v', (w.setCell ⟨rb, ro, none⟩ v).setCell ⟨rb, ro, none⟩ v' = w.setCell ⟨rb, ro, none⟩ v' := setCell_setCell w rb ro
  go_enter Tryz.func153, Tryz.ntmps153
  go_wp2
  go_region
  all_goals go_wp2
  all_goals go_region
  all_goals go_wp2
  all_goals go_region
  all_goals go_wp2
  go_ret
  exact ⟨rfl, rfl⟩

set_option maxHeartbeats 32000000 in
set_option maxRecDepth 1000000 in
/-- WALK 7a, its second half: 'return 1 << bits.Len(uint(length))'. -/
theorem s_nextPowerOfTwo (n : Nat) (hn : n < 4611686018427387904) (w : World) :
    Calls Tryz.prog 152 #[.int .i64 n] w fun e w' => e = .returned (.int .u64 ((1 <<< bitsLen n : Nat) : Int)) ∧ w' = w := by
  have hLen : ∀ w, Calls Tryz.prog 125 #[.int .u64 (n : Int)] w fun e w' => e = .returned (.int .i64 (bitsLen n : Nat)) ∧ w' = w := fun w => by
    have h := s_bits_Len (n : Int) w (by omega) (by omega)
    rwa [Int.toNat_natCast, bitLen_eq _ (by omega)] at h
  have hk : bitsLen n ≤ 62 := (bitsLen_le_iff n 62).2 (by omega)
  have hp := wrap_two_pow (bitsLen n) hk
  go_enter Tryz.func152, Tryz.ntmps152
  go_wp2_with (first | (go_at_call 125; refine (hLen _).mono ?_; rintro e w' ⟨rfl, rfl⟩))
  go_ret
  exact ⟨rfl, rfl⟩


open Go.RowKit Go.Sort

/-! ### Outside the walk: the rounds that are left -/
section
variable {α : Type} [Inhabited α]
end

open Go.Sort Go.RowKit

end Go.Proofs.YtnnjmelibmiimaaGreat.U64
namespace Go.Proofs.YtnnjmelibmiimaaGreat.U64
open Go.RowKit Go.Sort
set_option linter.unusedVariables false

open Go.Sort Go.RowKit

open Go.RowKit Go.Sort

/-- math/bits.Len's, in the plan's word. -/
def s_lenWalk : Prop := ∀ (n : Nat) (w : World), n < 4611686018427387904 → Calls Tryz.prog 125 #[.int .u64 (n : Int)] w fun e w' => e = .returned (.int .i64 (bitsLen n : Nat)) ∧ w' = w

open Go.RowKit Go.Sort

theorem plain13D : Plain13 where
  swo := swo_ltInt
  ins := insertionSort_holds
  par := partialInsertionSort_holds
  prt := partition_holds _
  peq := partitionEqual_holds _
  pdq := pdq_sorts _
theorem lenWalk : s_lenWalk := fun n w hn => by
  have h := s_bits_Len (n : Int) w (by omega) (by omega)
  rwa [Int.toNat_natCast, bitLen_eq _ (by omega)] at h
end Go.Proofs.YtnnjmelibmiimaaGreat.U64
namespace Go.Proofs.YtnnjmelibmiimaaGreat.U64
open Go.RowKit Go.Sort
set_option linter.unusedVariables false

def nvs (l : List Nat) : List Value := l.map fun (n : Nat) => Value.int .u64 (n : Int)
theorem nvs_len (l : List Nat) : (nvs l).length = l.length := List.length_map _
theorem infoN : (Tryz.prog.info? 32).map (fun i => (i.zero, i.size, i.bytes)) = some (some (.int .u64 0), 1, 8) := by kernel_rfl
/-- numbers, one appended behind the other -/
def NsB (w : World) (B : Nat) (v : Value) (l : List Nat) : Prop := w.ownsRow B 32 1 v l.length (nvs l)
theorem NsB.nil (w : World) (B : Nat) : NsB w B (.slice none 0 0) [] := World.ownsRow_nil _ _ _ _
theorem NsB.kept {w w' : World} {B : Nat} {v : Value} {l : List Nat} {row : Option Nat} (h : NsB w B v l) (hg : w.grownBy w' row) (hne : v.ownBlock = none ∨ v.ownBlock ≠ row) : NsB w' B v l := World.ownsRow.kept h hg hne
theorem NsB.ab {w w' : World} {B : Nat} {v : Value} {l : List Nat} (h : NsB w B v l) (hb : Below w.heap.size w w') : NsB w' B v l := World.ownsRow.kept (row := none) h (grown_of hb none) (by cases hv : v.ownBlock <;> simp)
theorem NsB.lt {w : World} {B g : Nat} {v : Value} {l : List Nat} (h : NsB w B v l) (hg : v.ownBlock = some g) : g < w.heap.size := by
  rcases h.2 with ⟨rfl, _⟩ | ⟨g', cap, cur, rfl, _, hb, _⟩
  · cases hg
  · cases hg
    exact (Array.getElem?_eq_some_iff.1 hb).1
theorem NsB.form {w : World} {B : Nat} {v : Value} {l : List Nat} (h : NsB w B v l) : ∃ A c, v = .slice A l.length c ∧ ∀ i (hi : i < l.length), ∃ g, A = some ⟨g, 0, none⟩ ∧ w.cell? ⟨g, i, none⟩ = some (.int .u64 ((l[i] : Nat) : Int)) := by
  have h0 := h
  rcases h.2 with ⟨rfl, h1⟩ | ⟨g, cap, cur, rfl, _, hb, _⟩
  · exact ⟨none, 0, by rw [h1], fun i hi => by omega⟩
  · refine ⟨_, _, rfl, fun i hi => ⟨g, rfl, ?_⟩⟩
    have h2 := World.ownsRow.cellAt h0 i (by omega)
    rw [h2]
    simp [nvs, hi]
theorem holds_own {w : World} {g : Nat} {cur : Array Value} {e : TypeId} {l : List Nat} (hb : w.heap[g]? = some (.cells cur e (0, 0))) (ht : cur.toList.take l.length = nvs l) : Holds (Value.int .u64) w g 0 (l.map fun (n : Nat) => (n : Int)).toArray := by
  intro j hj
  have hj' : j < l.length := by simpa using hj
  refine ⟨?_, by simp [World.frozen?, hb]⟩
  have h1 : (cur.toList.take l.length)[j]? = (nvs l)[j]? := by rw [ht]
  rw [List.getElem?_take_of_lt hj'] at h1
  simp only [World.cell?, hb, Nat.zero_add]
  simp only [Option.isSome_none, Bool.false_eq_true, if_false]
  rw [← Array.getElem?_toList, h1]
  simp [nvs, hj']
theorem heap_sorted {w : World} {g n : Nat} {os : Array Obj} {cur : Array Value} {e : TypeId} {fr : Nat × Nat} (d : Array Int) (hb : w.heap[g]? = some (.cells cur e fr)) :
    (grow (putRow (Value.int .u64) (Sort.ahead w n) g 0 d) os).heap[g]? = some (.cells (putCells (Value.int .u64) 0 d cur) e fr) := by
  have hg : g < w.heap.size := (Array.getElem?_eq_some_iff.1 hb).1
  rw [heap_grow_old _ _ (by simpa using hg)]
  simp [putRow, mapBlock, Sort.ahead, Array.getElem?_modify, hb, onCells]
theorem grownBy_sorted {w : World} {g n : Nat} {os : Array Obj} (d : Array Int) : w.grownBy (grow (putRow (Value.int .u64) (Sort.ahead w n) g 0 d) os) (some g) := by
  refine ⟨rfl, rfl, rfl, by simp, fun k hk hne => ?_⟩
  rw [heap_grow_old _ _ (by simpa using hk)]
  have : g ≠ k := fun e => hne (by rw [e])
  simp [putRow, mapBlock, Sort.ahead, Array.getElem?_modify, this]
theorem take_sorted (cur : Array Value) (ts : List Nat) (h : ts.length ≤ cur.size) : (putCells (Value.int .u64) 0 (ts.map fun (n : Nat) => (n : Int)).toArray cur).toList.take ts.length = nvs ts := by
  apply List.ext_getElem?
  intro j
  by_cases hj : j < ts.length
  · rw [List.getElem?_take_of_lt hj, Array.getElem?_toList]
    simp [putCells, nvs, hj, show j < cur.size by omega]
  · rw [List.getElem?_take_eq_none (by omega), List.getElem?_eq_none (by simp [nvs]; omega)]
theorem below_grownO {B : Nat} {a b c : World} {r : Option Nat} (h : Below B a b) (k : b.grownBy c r) (hr : ∀ g, r = some g → B ≤ g) (hs : B ≤ b.heap.size) : Below B a c := h.trans ⟨k.os, k.tape, k.output, k.size, fun i hi => k.block i (by omega) (fun e => by have := hr i e.symm; omega)⟩
def srt (l : List Nat) : List Nat := l.mergeSort fun a b => decide (a ≤ b)
theorem srt_len (l : List Nat) : (srt l).length = l.length := List.length_mergeSort _
theorem srt_int (l : List Nat) : (l.map fun (n : Nat) => (n : Int)).mergeSort (fun x y => decide (x ≤ y)) = (srt l).map fun (n : Nat) => (n : Int) := by
  unfold srt
  rw [List.map_mergeSort (s := fun x y : Int => decide (x ≤ y))]
  intro a _ b _
  simp
end Go.Proofs.YtnnjmelibmiimaaGreat.U64
namespace Go.Proofs.YtnnjmelibmiimaaGreat
open Go.RowKit
set_option linter.unusedVariables false

/-- a handle: rights, who gave it, whether it is alive -/
structure Hdl where
  r : Nat
  up : Nat
  on : Bool
abbrev HL := List Hdl
def nthH (A : HL) (h : Nat) : Option Hdl := if h = 0 then none else A[h - 1]?
def atH (A : HL) (h : Nat) : Option Hdl := (nthH A h).filter (·.on)
def upH (A : HL) (k : Nat) : Nat := match atH A k with | some x => x.up | none => 0
def belowF : Nat → HL → Nat → Nat → Bool
  | 0, _, _, _ => false
  | n + 1, A, h, k => upH A k != 0 && (upH A k == h || belowF n A h (upH A k))
def belowH (A : HL) (h k : Nat) : Bool := (atH A h).isSome && belowF A.length A h k
def aliveF : Nat → HL → List Nat
  | _, [] => []
  | k, x :: r => bif x.on then (k + 1) :: aliveF (k + 1) r else aliveF (k + 1) r
def aliveH (A : HL) : List Nat := aliveF 0 A
def putH (A : HL) (r u : Nat) : (Nat × Nat) × HL := if 64 ≤ (aliveH A).length then ((0, 9), A) else ((A.length + 1, 0), A ++ [⟨r, u, true⟩])
def giveH (A : HL) (h r : Nat) : (Nat × Nat) × HL := match atH A h with
  | none => ((0, 7), A)
  | some x => bif noGive x.r || overR r x.r then ((0, 250), A) else putH A r h
def killH (A : HL) (v : Nat) : HL := A.mapIdx fun i x => ⟨x.r, x.up, x.on && !(decide (i + 1 = v) || belowH A v (i + 1))⟩
def mayRv (A : HL) (x : Hdl) (h v : Nat) : Bool := decide (h = v) || (!noGive x.r && belowH A h v)
def revokeH (A : HL) (h v : Nat) : Nat × HL := match atH A h with
  | none => (7, A)
  | some x => match atH A v with
    | none => (7, A)
    | some _ => bif mayRv A x h v then (0, killH A v) else (250, A)
def checkH (A : HL) (h need : Nat) : Nat := match atH A h with
  | none => 7
  | some x => bif overR need x.r then 250 else 0
def clearH (A : HL) : HL := A.map fun x => ⟨x.r, x.up, false⟩
/-- who gave a handle came ahead of it, and is alive where it is -/
structure RightA (A : HL) : Prop where
  lt : ∀ (i : Nat) (x : Hdl), A[i]? = some x → x.up ≤ i
  on : ∀ (i : Nat) (x : Hdl), A[i]? = some x → x.on = true → x.up ≠ 0 → (atH A x.up).isSome = true
theorem atH_zero (A : HL) : atH A 0 = none := by simp [atH, nthH]
theorem atH_some {A : HL} {h : Nat} {x : Hdl} : atH A h = some x ↔ 1 ≤ h ∧ A[h - 1]? = some x ∧ x.on = true := by
  unfold atH nthH
  by_cases e : h = 0
  · subst e; simp
  · rw [if_neg e, Option.filter_eq_some_iff]
    constructor
    · rintro ⟨h1, h2⟩; exact ⟨by omega, h1, h2⟩
    · rintro ⟨_, h1, h2⟩; exact ⟨h1, h2⟩
theorem atH_le {A : HL} {h : Nat} {x : Hdl} (e : atH A h = some x) : 1 ≤ h ∧ h ≤ A.length := by
  obtain ⟨h1, h2, _⟩ := atH_some.1 e
  have := (List.getElem?_eq_some_iff.1 h2).1
  exact ⟨h1, by omega⟩
theorem atH_isSome {A : HL} {h : Nat} : (atH A h).isSome = true ↔ ∃ x, 1 ≤ h ∧ A[h - 1]? = some x ∧ x.on = true := by
  rw [Option.isSome_iff_exists]
  constructor
  · rintro ⟨x, hx⟩; exact ⟨x, atH_some.1 hx⟩
  · rintro ⟨x, hx⟩; exact ⟨x, atH_some.2 hx⟩
theorem RightA.upLt {A : HL} (hA : RightA A) (k : Nat) : upH A k = 0 ∨ (upH A k < k ∧ 1 ≤ k ∧ k ≤ A.length ∧ (atH A (upH A k)).isSome = true) := by
  unfold upH
  cases e : atH A k with
  | none => exact .inl rfl
  | some x =>
    obtain ⟨h1, h2, h3⟩ := atH_some.1 e
    have h4 := hA.lt _ _ h2
    have h5 := (atH_le e).2
    by_cases h0 : x.up = 0
    · exact .inl h0
    · exact .inr ⟨by show x.up < k; omega, h1, h5, hA.on _ _ h2 h3 h0⟩
theorem belowF_fuel {A : HL} (hA : RightA A) (h : Nat) : ∀ n m k, k ≤ n → k ≤ m → belowF n A h k = belowF m A h k
  | 0, 0, _, _, _ => rfl
  | 0, m + 1, k, h1, _ => by
    have : k = 0 := by omega
    subst this
    simp [belowF, upH, atH_zero]
  | n + 1, 0, k, _, h2 => by
    have : k = 0 := by omega
    subst this
    simp [belowF, upH, atH_zero]
  | n + 1, m + 1, k, h1, h2 => by
    rcases hA.upLt k with h0 | ⟨h0, _⟩
    · simp [belowF, h0]
    · simp only [belowF]
      rw [belowF_fuel hA h n m (upH A k) (by omega) (by omega)]
/-- one step up -/
theorem belowF_step {A : HL} (hA : RightA A) (h k : Nat) : belowF A.length A h k = (upH A k != 0 && (upH A k == h || belowF A.length A h (upH A k))) := by
  rcases hA.upLt k with h0 | ⟨h0, h1, h2, _⟩
  · cases hl : A.length with
    | zero => simp [belowF, h0]
    | succ n => simp [belowF, h0]
  · obtain ⟨n, hn⟩ : ∃ n, A.length = n + 1 := ⟨A.length - 1, by omega⟩
    rw [belowF_fuel hA h A.length (A.length + 1) k h2 (by omega)]
    simp only [belowF]
theorem aliveF_snoc (x : Hdl) : ∀ (A : HL) (k : Nat), aliveF k (A ++ [x]) = aliveF k A ++ (bif x.on then [k + A.length + 1] else [])
  | [], k => by cases h : x.on <;> simp [aliveF, h]
  | y :: r, k => by
    simp only [List.cons_append, aliveF, aliveF_snoc x r (k + 1), List.length_cons]
    have e : k + 1 + r.length + 1 = k + (r.length + 1) + 1 := by omega
    rw [e]
    cases y.on <;> simp
theorem aliveF_cons (k : Nat) (x : Hdl) (r : HL) : aliveF k (x :: r) = bif x.on then (k + 1) :: aliveF (k + 1) r else aliveF (k + 1) r := rfl
theorem aliveF_mem {n : Nat} : ∀ {A : HL} {k : Nat}, n ∈ aliveF k A ↔ ∃ i x, A[i]? = some x ∧ x.on = true ∧ n = k + i + 1
  | [], k => by simp [aliveF]
  | y :: r, k => by
    have ih := aliveF_mem (n := n) (A := r) (k := k + 1)
    have hl : n ∈ aliveF k (y :: r) ↔ (y.on = true ∧ n = k + 1) ∨ n ∈ aliveF (k + 1) r := by
      rw [aliveF_cons]
      cases hy : y.on <;> simp
    rw [hl, ih]
    constructor
    · rintro (⟨h1, h2⟩ | ⟨i, x, h1, h2, h3⟩)
      · exact ⟨0, y, rfl, h1, by omega⟩
      · exact ⟨i + 1, x, by simpa using h1, h2, by omega⟩
    · rintro ⟨i, x, h1, h2, h3⟩
      cases i with
      | zero =>
        simp only [List.getElem?_cons_zero, Option.some.injEq] at h1
        subst h1
        exact .inl ⟨h2, by omega⟩
      | succ i => exact .inr ⟨i, x, by simpa using h1, h2, by omega⟩
theorem aliveF_asc : ∀ (A : HL) (k : Nat), (aliveF k A).Pairwise (· < ·)
  | [], k => List.Pairwise.nil
  | y :: r, k => by
    have ih := aliveF_asc r (k + 1)
    rw [aliveF_cons]
    cases y.on
    · exact ih
    · refine List.pairwise_cons.2 ⟨fun n hn => ?_, ih⟩
      obtain ⟨i, x, _, _, h3⟩ := aliveF_mem.1 hn
      omega
theorem aliveH_mem {A : HL} {n : Nat} : n ∈ aliveH A ↔ (atH A n).isSome = true := by
  unfold aliveH
  rw [aliveF_mem, atH_isSome]
  constructor
  · rintro ⟨i, x, h1, h2, rfl⟩; exact ⟨x, by omega, by simpa using h1, h2⟩
  · rintro ⟨x, h1, h2, h3⟩; exact ⟨n - 1, x, h2, h3, by omega⟩
theorem aliveH_asc (A : HL) : (aliveH A).Pairwise (· < ·) := aliveF_asc A 0
theorem aliveH_nodup (A : HL) : (aliveH A).Nodup := (aliveH_asc A).imp fun h => Nat.ne_of_lt h
theorem aliveH_le {A : HL} {n : Nat} (h : n ∈ aliveH A) : 1 ≤ n ∧ n ≤ A.length := by
  obtain ⟨x, hx⟩ := Option.isSome_iff_exists.1 (aliveH_mem.1 h)
  exact atH_le hx
theorem aliveH_snoc (A : HL) (r u : Nat) : aliveH (A ++ [⟨r, u, true⟩]) = aliveH A ++ [A.length + 1] := by
  unfold aliveH
  rw [aliveF_snoc]
  simp
/-- behind one handle more -/
theorem atH_snoc (A : HL) (x : Hdl) (k : Nat) : atH (A ++ [x]) k = if k = A.length + 1 then (bif x.on then some x else none) else atH A k := by
  unfold atH nthH
  by_cases e : k = 0
  · subst e; simp
  · rw [if_neg e, if_neg e]
    by_cases e1 : k = A.length + 1
    · subst e1
      rw [if_pos rfl, List.getElem?_append_right (by omega)]
      cases h : x.on <;> simp [Option.filter, h]
    · rw [if_neg e1]
      by_cases e2 : k - 1 < A.length
      · rw [List.getElem?_append_left e2]
      · rw [List.getElem?_eq_none (by simp; omega), List.getElem?_eq_none (by omega)]
theorem RightA.nil : RightA [] := ⟨fun i x h => by simp at h, fun i x h => by simp at h⟩
theorem RightA.snoc {A : HL} (hA : RightA A) (r u : Nat) (hu : u = 0 ∨ (atH A u).isSome = true) : RightA (A ++ [⟨r, u, true⟩]) := by
  have hle : u ≤ A.length := by
    rcases hu with rfl | h
    · omega
    · obtain ⟨x, hx⟩ := Option.isSome_iff_exists.1 h
      exact (atH_le hx).2
  refine ⟨fun i x h => ?_, fun i x h hon h0 => ?_⟩
  · rcases Nat.lt_or_ge i A.length with hi | hi
    · rw [List.getElem?_append_left hi] at h
      exact hA.lt i x h
    · rw [List.getElem?_append_right hi] at h
      cases hd : i - A.length with
      | zero =>
        rw [hd] at h
        simp only [List.getElem?_cons_zero, Option.some.injEq] at h
        subst h
        show u ≤ i
        omega
      | succ n => rw [hd] at h; simp at h
  · rw [atH_snoc]
    split
    · rfl
    · rcases Nat.lt_or_ge i A.length with hi | hi
      · rw [List.getElem?_append_left hi] at h
        exact hA.on i x h hon h0
      · rw [List.getElem?_append_right hi] at h
        cases hd : i - A.length with
        | zero =>
          rw [hd] at h
          simp only [List.getElem?_cons_zero, Option.some.injEq] at h
          subst h
          rcases hu with h1 | h1
          · exact absurd h1 h0
          · exact h1
        | succ n => rw [hd] at h; simp at h
theorem killH_at (A : HL) (v i : Nat) : (killH A v)[i]? = (A[i]?).map fun x => ⟨x.r, x.up, x.on && !(decide (i + 1 = v) || belowH A v (i + 1))⟩ := by
  unfold killH
  rw [List.getElem?_mapIdx]
theorem killH_len (A : HL) (v : Nat) : (killH A v).length = A.length := by simp [killH]
theorem atH_kill (A : HL) (v k : Nat) : atH (killH A v) k = if k = v || belowH A v k then none else atH A k := by
  unfold atH nthH
  by_cases e : k = 0
  · subst e; simp
  · rw [if_neg e, if_neg e, killH_at]
    have e1 : k - 1 + 1 = k := by omega
    rw [e1]
    cases h : A[k - 1]? with
    | none => simp
    | some x =>
      by_cases h1 : k = v
      · simp [h1, Option.filter]
      · cases h2 : belowH A v k <;> cases h3 : x.on <;> simp [h1, h3, Option.filter]
        cases x
        simp_all
theorem belowH_up {A : HL} (hA : RightA A) {v k : Nat} (hv : (atH A v).isSome = true) (h0 : upH A k ≠ 0) (h : upH A k = v ∨ belowH A v (upH A k) = true) : belowH A v k = true := by
  unfold belowH at h ⊢
  rw [hv, Bool.true_and] at h ⊢
  rw [belowF_step hA]
  simp only [bne_iff_ne, ne_eq, Bool.and_eq_true, Bool.or_eq_true, beq_iff_eq]
  exact ⟨h0, h⟩
theorem RightA.kill {A : HL} (hA : RightA A) (v : Nat) : RightA (killH A v) := by
  refine ⟨fun i x h => ?_, fun i x h hon h0 => ?_⟩
  · rw [killH_at, Option.map_eq_some_iff] at h
    obtain ⟨y, hy, rfl⟩ := h
    exact hA.lt i y hy
  · rw [killH_at, Option.map_eq_some_iff] at h
    obtain ⟨y, hy, rfl⟩ := h
    simp only [Bool.and_eq_true, Bool.not_eq_true', Bool.or_eq_false_iff, decide_eq_false_iff_not] at hon h0 ⊢
    obtain ⟨h1, h2, h3⟩ := hon
    have hup : upH A (i + 1) = y.up := by
      unfold upH
      rw [atH_some.2 ⟨by omega, by simpa using hy, h1⟩]
    rw [atH_kill]
    have hon := hA.on i y hy h1 h0
    cases hv : (atH A v).isSome with
    | false =>
      have hb : ∀ k, belowH A v k = false := fun k => by unfold belowH; rw [hv, Bool.false_and]
      rw [hb]
      by_cases e : y.up = v
      · rw [e, hv] at hon; cases hon
      · simp [e, hon]
    | true =>
      by_cases e : y.up = v
      · have := belowH_up hA (k := i + 1) hv (by rw [hup]; exact h0) (.inl (by rw [hup]; exact e))
        rw [this] at h3; cases h3
      · cases hb : belowH A v y.up with
        | true =>
          have := belowH_up hA (k := i + 1) hv (by rw [hup]; exact h0) (.inr (by rw [hup]; exact hb))
          rw [this] at h3; cases h3
        | false => simp [e, hon]
theorem RightA.clear {A : HL} (hA : RightA A) : RightA (clearH A) := by
  refine ⟨fun i x h => ?_, fun i x h hon h0 => ?_⟩
  · unfold clearH at h
    rw [List.getElem?_map, Option.map_eq_some_iff] at h
    obtain ⟨y, hy, rfl⟩ := h
    exact hA.lt i y hy
  · unfold clearH at h
    rw [List.getElem?_map, Option.map_eq_some_iff] at h
    obtain ⟨y, hy, rfl⟩ := h
    cases hon
end Go.Proofs.YtnnjmelibmiimaaGreat
namespace Go.Proofs.YtnnjmelibmiimaaGreat
open Go.RowKit Go.MapKept
set_option linter.unusedVariables false

section
variable {P : Program} {k e t : TypeId} {κ : Type} {kv : κ → Value} {ok : κ → Prop} {w w' : World} {b : Nat} {l : List (κ × Value)} {ops : Array Oper} {rest : List Oper} {o : Oper} {a : Act} {Q : Exit → Act → World → Prop} {F : Fence} {n : Nat}
theorem RngB.walks {r : Nat} {d : List (κ × Value)} (h : RngB kv ok w b r l d) (hk : KeepsWalks w w') : RngB kv ok w' b r l d := by
  have h0 := h
  obtain ⟨es, clock, since, seen, c0, h1, h2, h3, h4, h5, h6⟩ := h
  exact h0.same ((hk.same b _ h1 rfl).trans h1.symm) ((hk.same r _ h5 rfl).trans h5.symm)
theorem RngB.walk {r : Nat} {d : List (κ × Value)} (h : RngB kv ok w b r l d) : ∃ o : Obj, w.heap[r]? = some o ∧ o.isWalk = true := by
  obtain ⟨es, clock, since, seen, c0, h1, h2, h3, h4, h5, h6⟩ := h
  exact ⟨_, h5, rfl⟩
theorem wpListIn_mapRange (hg : o.guard = none) (m : Operand) (hop : o.op = .range t m) (ht : P.underlying t = some (.map k e)) (hm : a.eval m = .map (some b)) (h : MapB kv ok w b l)
    (hK : ∀ w', RngB kv ok w' b w.heap.size l [] → Below w.heap.size w w' → w'.heap.size = w.heap.size + 1 → wpListIn F n P ops Q rest (a.put o.dst (.pointer (some ⟨w.heap.size, 0, none⟩))) w') : wpListIn F n P ops Q (o :: rest) a w := by
  refine wpListIn_plain hg fun K' hK' => ?_
  obtain ⟨w', hrun, r1, r2, r3⟩ := h.range ht
  unfold Oper.wpIn
  refine ⟨by simp [Oper.about, hop], ?_⟩
  rw [Oper.semAt_plain F _ _ (by rw [hop]; intro c hc'; cases hc')]
  simp [execOp, hop, hm, hrun, Result.andThen]
  exact hK' _ _ (hK w' r1 r2 r3)
end
section
variable {P : Program} {F : Fence} {n : Nat}
/-- what an iterator may turn: an object of a walk laid since it was called, or a block of its own -/
def TurnsX (B : Nat) (hb : Option Nat) (A : World) (row : Option Nat) : Prop := ∀ r, row = some r → hb = some r ∨ (B ≤ r ∧ ∃ o : Obj, A.heap[r]? = some o ∧ o.isWalk = true)
/-- what the law itself may turn: what is no cells, laid since -/
def TurnsL (B : Nat) (A : World) (row : Option Nat) : Prop := ∀ r, row = some r → B ≤ r ∧ ∃ o : Obj, A.heap[r]? = some o ∧ o.isCells = false
/-- what a round that goes on keeps -/
def KpX (B : Nat) (W W' : World) : Prop := KeepsWalks W W' ∧ Below B W W'
theorem KpX.tr {B : Nat} {X Y Z : World} (h : KpX B X Y) (k : KpX B Y Z) : KpX B X Z := ⟨h.1.trans k.1, h.2.trans k.2⟩
theorem KpX.put {B l : Nat} {W : World} {o : Obj} (o' : Obj) (hB : B ≤ l) (h : W.heap[l]? = some o) (hw : o.isWalk = false) : KpX B W (W.putObj l o') :=
  ⟨KeepsWalks.putObj _ h hw, (Below.refl B W).grown (grownBy_putObj' W l o') (by have := (Array.getElem?_eq_some_iff.1 h).1; omega) (fun k e => by cases e; exact hB)⟩
/-- AN ITERATOR: whatever J the caller keeps, so it abides the iterator's turns; whatever the rounds do, so they carry J on and keep what they owe -/
def SeqX {α : Type} (F : Fence) (n : Nat) (P : Program) (g : Nat) (lb : Array Value) (encs : α → Array Value) (hb : Option Nat) (n₀ : Nat) (S Sp : List α → Prop) (N : Nat) (w : World) : Prop :=
  ∀ (l : Nat) (J Jx : List α → World → Prop) (W : World), Below w.heap.size w W → (∀ s A C row, J s A → A.grownBy C row → TurnsX W.heap.size hb A row → J s C) →
    (∀ pre x W1, J pre W1 → pre.length < N → YieldAt F (n - 1) P l (encs x) W1 fun e W' => (e = .returned (.bool true) ∧ J (pre ++ [x]) W' ∧ KpX n₀ W1 W') ∨ (e = .returned (.bool false) ∧ Jx (pre ++ [x]) W')) →
    J [] W →
    CallsIn F n P g (#[.func (.yield l) #[] #[]] ++ lb) W fun e W' => (∃ v, e = .returned v) ∧ ((∃ xs, S xs ∧ J xs W') ∨ (∃ pre, Sp pre ∧ Jx pre W'))
/-- THE STATEMENT -/
theorem range_any {α : Type} {g : Operand} {ps : Array Tmp} {assign body : Code} {Q : Exit → Act → World → Prop} {a : Act} {w : World}
    (hro : F.round = none) (h1 : 1 ≤ n) {gf : Nat} {lb : Array Value} (hg : a.eval g = .func (.func gf) #[] lb) (hFg : F.fn gf) (eg : ∀ args w, (callFunc gf args).run P w = .ok (.enter gf args) w)
    {encs : α → Array Value} {hb : Option Nat} {n₀ : Nat} {S Sp : List α → Prop} {N : Nat} (hn₀ : n₀ ≤ w.heap.size) (hhb : ∀ r, hb = some r → r < w.heap.size) (hseq : SeqX F (n - 1) P gf lb encs hb n₀ S Sp N w) (hps : ∀ x, (encs x).size = ps.size)
    (I : List α → World → Prop) (Ix : Code → List α → World → Prop)
    (hI : ∀ s A C row, I s A → A.grownBy C row → (∀ r, row = some r → hb = some r ∨ (w.heap.size ≤ r ∧ ∃ o : Obj, A.heap[r]? = some o ∧ o.isCells = false)) → I s C)
    (hIx : ∀ c s A C row, Ix c s A → A.grownBy C row → TurnsL w.heap.size A row → Ix c s C) (h0 : I [] w) (a₁ : α → Act)
    (hassign : ∀ (l : Nat) (x : α) (W : World) (K : Act → World → Prop), K (a₁ x) W →
      assign.wpIn (F.inRound l) (n - 1 - 1) P (Exit.then K (fun _ _ _ => False)) { tmps := (ps.zip (encs x)).foldl (fun t (p, v) => t.setIfInBounds p v) a.tmps, defers := [] } W)
    (hbody : ∀ (l : Nat) (pre : List α) (x : α) (W : World), I pre W → pre.length < N → body.wpIn (F.inRound l) (n - 1 - 1) P (ownPostG w.heap.size (KpX n₀) I Ix (pre ++ [x]) W) (a₁ x) W)
    (hdone : ∀ (D : Nat) (xs : List α) (W : World), w.heap.size ≤ D → S xs → I xs W → W.heap[D]? = some (.deferred (some [])) → Q .normal { a with defers := { target := .collected D, args := #[] } :: a.defers } W)
    (hstop : ∀ (D : Nat) (c : Code) (pre : List α) (W : World), w.heap.size ≤ D → Sp pre → Ix c pre W → W.heap[D]? = some (.deferred (some [])) → c.wpIn F n P Q { a with defers := { target := .collected D, args := #[] } :: a.defers } W) :
    (Code.rangeFunc g ps assign body).wpIn F n P Q a w := by
  have hIp : ∀ {s : List α} {W : World} {l : Nat} {o : Obj} (o' : Obj), I s W → w.heap.size ≤ l → W.heap[l]? = some o → o.isCells = false → I s (W.putObj l o') := fun {s W l o} o' hi hl h hc =>
    hI s W _ (some l) hi (grownBy_putObj' W l o') fun r e => by cases e; exact .inr ⟨hl, o, h, hc⟩
  have hXp : ∀ {c : Code} {s : List α} {W : World} {l : Nat} {o : Obj} (o' : Obj), Ix c s W → w.heap.size ≤ l → W.heap[l]? = some o → o.isCells = false → Ix c s (W.putObj l o') := fun {c s W l o} o' hi hl h hc =>
    hIx c s W _ (some l) hi (grownBy_putObj' W l o') fun r e => by cases e; exact ⟨hl, o, h, hc⟩
  have hIa : ∀ {s : List α} {W : World} (o' : Obj), I s W → I s (W.alloc o') := fun {s W} o' hi => hI s W _ none hi ⟨rfl, rfl, rfl, by simp, fun i hi _ => Below.heap_alloc W o' i hi⟩ fun r e => by cases e
  refine wpIn_rangeFunc fun fn hfn => ?_
  rw [hro]
  obtain ⟨R, hR⟩ : ∃ R : LoopState → Option Code → Loop, R = fun st pe => { state := st, pending := pe, fn, tmps := a.tmps, params := ps, assign, body, defers := w.heap.size } := ⟨_, rfl⟩
  obtain ⟨W1, hW1⟩ : ∃ W1, (w.alloc (.deferred (some []))).alloc (.loop (R .ready none)) = W1 := ⟨_, rfl⟩
  obtain ⟨l, hl⟩ : ∃ l, l = w.heap.size + 1 := ⟨_, rfl⟩
  obtain ⟨D, hD⟩ : ∃ D, D = w.heap.size := ⟨_, rfl⟩
  have L1 : W1.heap[l]? = some (.loop (R .ready none)) := by
    rw [← hW1, hl]
    have := World.alloc_heap_new (w.alloc (.deferred (some []))) (.loop (R .ready none))
    rwa [World.size_alloc] at this
  have K1 : W1.heap[D]? = some (.deferred (some [])) := by
    rw [← hW1, hD]
    exact (Below.heap_alloc _ _ _ (by simp)).trans (World.alloc_heap_new w _)
  have S1 : w.heap.size ≤ W1.heap.size := by rw [← hW1]; simp; omega
  have B1 : Below w.heap.size w W1 := by rw [← hW1]; exact ((Below.refl _ w).alloc (Nat.le_refl _) _).alloc (by simp) _
  have I1 : I [] W1 := by rw [← hW1]; exact hIa _ (hIa _ h0)
  refine ⟨l, [{ target := .collected w.heap.size, args := #[] }], W1, { target := .fn (.func gf) lb, args := #[.func (.yield l) #[] #[]] }, W1, gf, #[.func (.yield l) #[] #[]] ++ lb, W1, ?_, ?_, ?_, ?_, fun _ => h1, ?_⟩
  · rw [← hW1, hR, hl]; exact run_enterLoop_outer _ _ _ _ _
  · simp only [resolve, hg]
    simp [go_sem]
  · intro f' hf'
    simp [Target.leads] at hf'
    subst hf'
    exact hFg
  · simp [invoke, go_sem, eg]
  refine (hseq l (fun pre W => I pre W ∧ W.heap[l]? = some (.loop (R .ready none)) ∧ W.heap[D]? = some (.deferred (some [])))
    (fun pre W => ∃ c, Ix c pre W ∧ W.heap[l]? = some (.loop (R .done (some c))) ∧ W.heap[D]? = some (.deferred (some []))) W1 B1 ?_ ?_ ⟨I1, L1, K1⟩).mono ?_
  · rintro s A C row ⟨hi, hl2, hk2⟩ hgr ht
    have far : ∀ {j : Nat} {o : Obj}, w.heap.size ≤ j → A.heap[j]? = some o → o.isWalk = false → C.heap[j]? = some o := fun {j o} hj ho hw => by
      refine (hgr.block j (Array.getElem?_eq_some_iff.1 ho).1 fun e => ?_).trans ho
      rcases ht j e.symm with h | ⟨_, o', h3, h4⟩
      · have := hhb j h; omega
      · rw [ho] at h3; cases h3; rw [hw] at h4; cases h4
    refine ⟨hI s A C row hi hgr fun r e => ?_, far (by omega) hl2 rfl, far (by omega) hk2 rfl⟩
    rcases ht r e with h | ⟨h2, o, h3, h4⟩
    · exact .inl h
    · exact .inr ⟨by omega, o, h3, Obj.not_cells_of_walk h4⟩
  · rintro pre x W ⟨hi, hl2, hk2⟩ hlen
    have hlt := (Array.getElem?_eq_some_iff.1 hl2).1
    have hy := run_yield (P := P) (args := encs x) hl2 (by rw [hR]; exact hps x)
    rw [hR] at hy
    refine ⟨fn, _, assign, body, hy, roundIn_of_wpIn hfn (hassign _ x W _ ⟨_, run_beginRound hl2 (by rw [hR]), ?_⟩)⟩
    obtain ⟨W2, hW2⟩ : ∃ W2, W.putObj l (.loop { R .ready none with state := .busy }) = W2 := ⟨_, rfl⟩
    have L2 : W2.heap[l]? = some (.loop { R .ready none with state := .busy }) := by rw [← hW2]; exact World.putObj_heap_same hlt
    have K2 : W2.heap[D]? = some (.deferred (some [])) := by rw [← hW2]; exact (World.putObj_heap_other (by omega)).trans hk2
    have P2 : KpX n₀ W W2 := by rw [← hW2]; exact KpX.put _ (by omega) hl2 rfl
    have I2 : I pre W2 := by rw [← hW2]; exact hIp _ hi (by omega) hl2 rfl
    rw [hW2]
    have fin : ∀ (jump : Option Code) (W3 : World), KeepsFrom w.heap.size W2 W3 →
        (Instr.endRound l jump).run P W3 = .ok (.bool jump.isNone) (W3.putObj l (.loop (R (if jump.isNone then .ready else .done) jump))) ∧ W3.heap[l]? = some (.loop { R .ready none with state := .busy }) ∧
        (W3.putObj l (.loop (R (if jump.isNone then .ready else .done) jump))).heap[l]? = some (.loop (R (if jump.isNone then .ready else .done) jump)) ∧
        (W3.putObj l (.loop (R (if jump.isNone then .ready else .done) jump))).heap[D]? = some (.deferred (some [])) := fun jump W3 hk3 => by
      have L3 := hk3.same l _ (by omega) L2 rfl
      have h4 := run_endRound (P := P) jump L3
      have L4 := L3
      rw [hR] at h4 L3 ⊢
      exact ⟨h4, L3, World.putObj_heap_same (Array.getElem?_eq_some_iff.1 L3).1, (World.putObj_heap_other (by omega)).trans (hk3.same D _ (by omega) K2 rfl)⟩
    refine wpIn_mono (hbody l pre x W2 I2 hlen) ?_
    rintro e a3 W3 hp
    cases e with
    | normal =>
      obtain ⟨hk3, hkp3, hi3⟩ := hp
      obtain ⟨hr, hl3, hl4, hk4⟩ := fin none W3 hk3
      exact ⟨_, _, hr, .inl ⟨rfl, ⟨hIp _ hi3 (by omega) hl3 rfl, hl4, hk4⟩, (P2.tr hkp3).tr (KpX.put _ (by omega) hl3 rfl)⟩⟩
    | ret =>
      obtain ⟨hk3, hi3⟩ := hp
      obtain ⟨hr, hl3, hl4, hk4⟩ := fin (some .ret) W3 hk3
      exact ⟨_, _, hr, .inr ⟨rfl, .ret, hXp _ hi3 (by omega) hl3 rfl, hl4, hk4⟩⟩
    | exit id =>
      obtain ⟨hk3, hi3⟩ := hp
      obtain ⟨hr, hl3, hl4, hk4⟩ := fin (some (.exit id)) W3 hk3
      exact ⟨_, _, hr, .inr ⟨rfl, .exit id, hXp _ hi3 (by omega) hl3 rfl, hl4, hk4⟩⟩
    | goto t =>
      obtain ⟨hk3, hi3⟩ := hp
      obtain ⟨hr, hl3, hl4, hk4⟩ := fin (some (.goto t)) W3 hk3
      exact ⟨_, _, hr, .inr ⟨rfl, .goto t, hXp _ hi3 (by omega) hl3 rfl, hl4, hk4⟩⟩
    | panic ch => exact hp.elim
    | outgrown => exact hp.elim
  · have hDz : ({ target := .collected w.heap.size, args := #[] } : Deferred) = { target := .collected D, args := #[] } := by rw [hD]
    rintro e W2 ⟨⟨v, rfl⟩, (⟨xs, hS, hi, hl2, hk2⟩ | ⟨pre, hSp, c, hi, hl2, hk2⟩)⟩
    · have h4 := run_endLoop (P := P) hl2 (by rw [hR]; simp)
      rw [hR] at h4
      refine ⟨none, _, h4, ?_⟩
      simp only [List.cons_append, List.nil_append]
      rw [hDz]
      exact hdone D xs _ (by omega) hS (hIp _ hi (by omega) hl2 rfl) ((World.putObj_heap_other (by omega)).trans hk2)
    · have h4 := run_endLoop (P := P) hl2 (by rw [hR]; simp)
      rw [hR] at h4
      refine ⟨some c, _, h4, ?_⟩
      simp only [List.cons_append, List.nil_append]
      rw [hDz]
      exact hstop D c pre _ (by omega) hSp (hXp _ hi (by omega) hl2 rfl) ((World.putObj_heap_other (by omega)).trans hk2)
end
end Go.Proofs.YtnnjmelibmiimaaGreat
namespace Go.Proofs.YtnnjmelibmiimaaGreat.U64
open Go.RowKit Go.Sort Go.Shelf
set_option linter.unusedVariables false
attribute [local go_sem] Oper.semAt_some

theorem wpListIn_appN {F : Fence} {nF : Nat} {rest : List Oper} {ops : Array Oper} {o : Oper} {a : Act} {w : World} {Q : Exit → Act → World → Prop} (hgd : o.guard = none) (s x : Operand)
    (ho : o.op = .call { callee := .builtin .append, args := #[s, x], argTypes := #[156, 156] })
    {B G : Nat} {v : Value} {ls : List Nat} (hown : NsB w B v ls) (hs : a.eval s = v) (n : Nat) (hx : a.eval x = .slice (some ⟨G, 0, none⟩) 1 1) (hG : CbB w G 32 #[.int .u64 (n : Int)]) (hl : ls.length ≤ 100000) (hB : B ≤ w.heap.size)
    (h : ∀ v' w', NsB w' B v' (ls ++ [n]) → w.grownBy w' v.ownBlock → wpListIn F nF Tryz.prog ops Q rest (a.put o.dst v') w') : wpListIn F nF Tryz.prog ops Q (o :: rest) a w := by
  obtain ⟨i0, hi0, hz0, hz1, hz2⟩ := info_parts infoN
  obtain ⟨v1, W1, hrun, r1, r2, _⟩ := run_append_own (P := Tryz.prog) w B 156 o.type 32 i0 _ 1 8 Tryz.underlying156 hi0 hz0 hz1 hz2 rfl (by decide) v ls.length (nvs ls) hown ⟨G, 0, none⟩ 1 1 [.int .u64 (n : Int)] rfl (row_at hG) (by simp [Value.oneCell']) (by simp only [maxLen]; omega) (by omega) hB
  refine wpListIn_plain hgd fun K hK => ?_
  unfold Oper.wpIn
  refine ⟨by simp [Oper.about, ho, resolve, Target.leads, Sem.run_pure], ?_⟩
  rw [Oper.semAt_plain F _ _ (by rw [ho]; intro c hc'; cases hc')]
  simp only [execOp, ho, resolve, invoke, builtin, Sem.run_bind, Sem.run_pure, Result.andThen_ok, List.map_toArray, List.map_cons, List.map_nil, hs, hx, hrun]
  refine hK _ _ (h v1 W1 ?_ r2)
  unfold NsB nvs
  rw [List.map_append, List.length_append, List.length_singleton]
  exact r1
/-- between two rounds -/
def ApI (w : World) (pre : List Nat) (W : World) : Prop := (∃ v, Boxed W w.heap.size 156 v ∧ NsB W w.heap.size v pre) ∧ Below w.heap.size w W
theorem ApI.turn {w : World} {B : Nat} (hB : w.heap.size ≤ B) {s : List Nat} {A C : World} {row : Option Nat} (h : ApI w s A) (hg : A.grownBy C row) (hr : ∀ r, row = some r → B ≤ r ∧ ∃ o : Obj, A.heap[r]? = some o ∧ o.isCells = false) : ApI w s C := by
  obtain ⟨⟨v, hv, hn⟩, hb⟩ := h
  refine ⟨⟨v, hv.kept hg fun e => ?_, hn.kept hg ?_⟩, hb.grown hg hb.size (fun k e => Nat.le_trans hB (hr k e).1)⟩
  · obtain ⟨_, o, ho, hc⟩ := hr _ e.symm
    rw [show A.heap[w.heap.size]? = _ from hv] at ho
    cases ho
    cases hc
  · rcases hn.2 with ⟨rfl, _⟩ | ⟨g, cap, cur, rfl, _, hh, _⟩
    · exact .inl rfl
    · refine .inr fun e => ?_
      obtain ⟨_, o, ho, hc⟩ := hr g (by rw [← e]; rfl)
      rw [hh] at ho
      cases ho
      cases hc
theorem SeqX.later {α : Type} {F : Fence} {n : Nat} {P : Program} {g : Nat} {lb : Array Value} {encs : α → Array Value} {hb : Option Nat} {n₀ : Nat} {S Sp : List α → Prop} {N : Nat} {w w' : World} (h : SeqX F n P g lb encs hb n₀ S Sp N w) (hl : Below w.heap.size w w') : SeqX F n P g lb encs hb n₀ S Sp N w' :=
  fun l J Jx W hW hJ hY h0 => h l J Jx W (hl.trans (hW.mono hl.size)) hJ hY h0
end Go.Proofs.YtnnjmelibmiimaaGreat.U64
