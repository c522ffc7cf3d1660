/-
  CAPS: Attach, Give, Check, Rights; known; CapsNone: walks.
-/
import Derived.Test.YtobjdhpdljiijaaCaA
namespace Go.Proofs.Ytobjdhpdljiijaa
open Go.RowKit
set_option linter.unusedVariables false

/-- a put, or a refusal -/
def PutA (B c made : Nat) (x : Nat × Nat) (mo : Option Nat) (l : CpL) (w : World) (e : Ending) (w' : World) : Prop :=
  (l.length < 64 ∧ PutP B c made x mo l w e w') ∨ (64 ≤ l.length ∧ e = .returned (.tuple #[.int .u64 0, .int .i64 9]) ∧ Below w.heap.size w w')
theorem cput_any (B c made : Nat) (x : Nat × Nat) (mo : Option Nat) (l : CpL) (w : World) (h : CpB w B c mo made l) (hl : l.length ≤ 1000) (hm : made < 9223372036854775807) :
    Calls Try.prog 16 #[.pointer (some ⟨c, 0, none⟩), hdV x] w (PutA B c made x mo l w) := by
  by_cases h64 : l.length < 64
  · cases mo with
    | some m => exact (put_some B c made m x l w h h64 hm).mono fun e w' hp => .inl ⟨h64, hp⟩
    | none => exact (put_none B c made x l w h h64 hm).mono fun e w' hp => .inl ⟨h64, hp⟩
  · exact (put_full B c made x mo l w h (by omega) hl).mono fun e w' hp => .inr ⟨by omega, hp⟩
theorem PutA.back {B c made : Nat} {x : Nat × Nat} {mo : Option Nat} {l : CpL} {w w1 w' : World} {e : Ending} (hb : Below w.heap.size w w1) (h : PutA B c made x mo l w1 e w') : PutA B c made x mo l w e w' := by
  rcases h with ⟨h1, m', h2, h3, h4⟩ | ⟨h1, h2, h3⟩
  · exact .inl ⟨h1, m', h2, h3, (Fr.of hb _).tr h4.1, h4.2.imp id fun h => ⟨h.1, Nat.le_trans hb.size h.2⟩⟩
  · exact .inr ⟨h1, h2, below_tr hb h3 hb.size⟩
set_option maxRecDepth 100000 in
theorem attach_any (B c made : Nat) (mo : Option Nat) (l : CpL) (w : World) (h : CpB w B c mo made l) (hl : l.length ≤ 1000) (hm : made < 9223372036854775807) :
    Calls Try.prog 7 #[.pointer (some ⟨c, 0, none⟩)] w (PutA B c made (15, 0) mo l w) := by
  have HP := Lib.hid (cput_any B c made (15, 0) mo l w h hl hm)
  unfold hdV at HP
  clear h hl hm
  go_enter Try.func7, Try.ntmps7
  go_wp2_with fail
  refine HP.out.mono ?_
  rintro e w1 hp
  have hp2 := Lib.hid hp
  rcases hp with ⟨h1, m', rfl, h3, h4⟩ | ⟨h1, rfl, h3⟩
  all_goals
    clear HP
    go_wp2_with fail
    go_ret2
    exact hp2.out
set_option maxRecDepth 100000 in
theorem attachNil (w : World) : Calls Try.prog 7 #[.pointer none] w fun e w' => e = .returned (.tuple #[.int .u64 0, .int .i64 1]) ∧ Below w.heap.size w w' := by
  go_enter Try.func7, Try.ntmps7
  go_wp2_with fail
  go_ret2
  exact ⟨rfl, Below.refl _ _⟩
/-- may rights not be given on; are some of them none of its own? -/
def noGive (x : Nat) : Bool := bits .and .u8 (x : Int) 8 == 0
def overR (r x : Nat) : Bool := bits .andNot .u8 (r : Int) (x : Int) != 0
def giveE (h r : Nat) (l : CpL) : Nat := match getC h l with
  | some x => bif noGive x.1 || overR r x.1 then 250 else 0
  | none => 7
def GiveR (B c made h r : Nat) (mo : Option Nat) (l : CpL) (w : World) (e : Ending) (w' : World) : Prop :=
  (giveE h r l ≠ 0 ∧ e = .returned (.tuple #[.int .u64 0, .int .i64 (giveE h r l : Int)]) ∧ Below w.heap.size w w') ∨ (giveE h r l = 0 ∧ PutA B c made (r, h) mo l w e w')
set_option maxRecDepth 100000 in
set_option maxHeartbeats 1000000 in
theorem give_any (B c made h r : Nat) (mo : Option Nat) (l : CpL) (w : World) (hc : CpB w B c mo made l) (hk : u64Ok h) (hl : l.length ≤ 1000) (hm : made < 9223372036854775807) :
    Calls Try.prog 8 #[.pointer (some ⟨c, 0, none⟩), .int .u64 (h : Int), .int .u8 (r : Int)] w (GiveR B c made h r mo l w) := by
  have HF := Lib.hid (find_any B c made h mo l w hc hk)
  have HC := Lib.hid hc
  have HP := Lib.hid fun W hW => cput_any B c made (r, h) mo l W hW hl hm
  unfold findP at HF
  unfold GiveR giveE
  cases hg : getC h l with
  | none =>
    rw [hg] at HF
    simp only [Option.getD_none, Option.isSome_none, Bool.false_eq_true, if_false] at HF
    unfold hdV at HF
    clear hc hk hl hm HP hg
    go_enter Try.func8, Try.ntmps8
    go_wp2_with fail
    refine HF.out.mono ?_
    rintro e w1 ⟨rfl, hb⟩
    have B1 := Lib.hid hb
    clear hb HF
    go_wp2_with fail
    go_ret2
    exact .inl ⟨by decide, rfl, B1.out.alloc B1.out.size _⟩
  | some x =>
    rw [hg] at HF
    simp only [Option.getD_some, Option.isSome_some, if_true] at HF
    unfold hdV at HF HP
    have d1 : (bits .and .u8 (x.1 : Int) 8 == 0) = noGive x.1 := rfl
    have d2 : (bits .andNot .u8 (r : Int) (x.1 : Int) != 0) = overR r x.1 := rfl
    simp only
    generalize noGive x.1 = b1 at *
    generalize overR r x.1 = b2 at *
    clear hc hk hl hm hg
    cases b1
    · cases b2
      · go_enter Try.func8, Try.ntmps8
        go_wp2_with fail
        refine HF.out.mono ?_
        rintro e w1 ⟨rfl, hb⟩
        have B1 := Lib.hid hb
        have B2 : Hid (Below w.heap.size w (w1.alloc (.cells #[.int .u8 (x.1 : Int), .int .u64 (x.2 : Int)] 51))) := Lib.hid (hb.alloc hb.size _)
        clear hb HF
        go_wp2_with fail
        refine (HP.out _ (HC.out.ab B2.out)).mono ?_
        rintro e w3 hp
        have hp2 := Lib.hid (PutA.back B2.out hp)
        rcases hp with ⟨h1, m', rfl, h3, h4⟩ | ⟨h1, rfl, h3⟩
        all_goals
          clear HP HC B1 B2
          go_wp2_with fail
          go_ret2
          exact .inr ⟨rfl, hp2.out⟩
      · go_enter Try.func8, Try.ntmps8
        go_wp2_with fail
        refine HF.out.mono ?_
        rintro e w1 ⟨rfl, hb⟩
        have B1 := Lib.hid hb
        have B2 : Hid (Below w.heap.size w (w1.alloc (.cells #[.int .u8 (x.1 : Int), .int .u64 (x.2 : Int)] 51))) := Lib.hid (hb.alloc hb.size _)
        clear hb HF
        go_wp2_with fail
        go_ret2
        exact .inl ⟨by simp, rfl, B2.out⟩
    · go_enter Try.func8, Try.ntmps8
      go_wp2_with fail
      refine HF.out.mono ?_
      rintro e w1 ⟨rfl, hb⟩
      have B1 := Lib.hid hb
      have B2 : Hid (Below w.heap.size w (w1.alloc (.cells #[.int .u8 (x.1 : Int), .int .u64 (x.2 : Int)] 51))) := Lib.hid (hb.alloc hb.size _)
      clear hb HF
      go_wp2_with fail
      go_ret2
      exact .inl ⟨by simp, rfl, B2.out⟩
set_option maxRecDepth 100000 in
theorem giveNil (h r : Nat) (w : World) : Calls Try.prog 8 #[.pointer none, .int .u64 (h : Int), .int .u8 (r : Int)] w fun e w' => e = .returned (.tuple #[.int .u64 0, .int .i64 1]) ∧ Below w.heap.size w w' := by
  have HF := Lib.hid (findNil (.int .u64 (h : Int)) w)
  go_enter Try.func8, Try.ntmps8
  go_wp2_with fail
  refine HF.out.mono ?_
  rintro e w1 ⟨rfl, hb⟩
  have B1 := Lib.hid hb
  clear hb HF
  go_wp2_with fail
  go_ret2
  exact ⟨rfl, B1.out.alloc B1.out.size _⟩
set_option maxRecDepth 100000 in
theorem rightsNil (h : Nat) (w : World) : Calls Try.prog 12 #[.pointer none, .int .u64 (h : Int)] w fun e w' => e = .returned (.tuple #[.int .u8 0, .int .i64 1]) ∧ Below w.heap.size w w' := by
  have HF := Lib.hid (findNil (.int .u64 (h : Int)) w)
  go_enter Try.func12, Try.ntmps12
  go_wp2_with fail
  refine HF.out.mono ?_
  rintro e w1 ⟨rfl, hb⟩
  have B1 := Lib.hid hb
  clear hb HF
  go_wp2_with fail
  go_ret2
  exact ⟨rfl, B1.out.alloc B1.out.size _⟩
set_option maxRecDepth 100000 in
theorem revokeNil (h v : Nat) (w : World) : Calls Try.prog 9 #[.pointer none, .int .u64 (h : Int), .int .u64 (v : Int)] w fun e w' => e = .returned (.int .i64 1) ∧ Below w.heap.size w w' := by
  have HF := Lib.hid (findNil (.int .u64 (h : Int)) w)
  go_enter Try.func9, Try.ntmps9
  go_wp2_with fail
  refine HF.out.mono ?_
  rintro e w1 ⟨rfl, hb⟩
  have B1 := Lib.hid hb
  clear hb HF
  go_wp2_with fail
  go_ret
  exact ⟨rfl, B1.out.alloc B1.out.size _⟩
set_option maxRecDepth 100000 in
theorem clearNil (w : World) : Calls Try.prog 10 #[.pointer none] w fun e w' => e = .returned (.int .i64 1) ∧ Below w.heap.size w w' := by
  go_enter Try.func10, Try.ntmps10
  go_wp2_with fail
  go_ret
  exact ⟨rfl, Below.refl _ _⟩
set_option maxRecDepth 100000 in
theorem aliveNil (w : World) : Calls Try.prog 6 #[.pointer none] w fun e w' => e = .returned (.slice none 0 0) ∧ Below w.heap.size w w' := by
  go_enter Try.func6, Try.ntmps6
  go_wp2_with fail
  go_ret
  exact ⟨rfl, Below.refl _ _⟩
set_option maxRecDepth 100000 in
theorem belowNil (h v : Nat) (w : World) : Calls Try.prog 13 #[.pointer none, .int .u64 (h : Int), .int .u64 (v : Int)] w fun e w' => e = .returned (.bool false) ∧ Below w.heap.size w w' := by
  have b0 : Below w.heap.size w ((w.alloc (.cells #[.int .u64 (h : Int)] 28)).alloc (.cells #[.bool false] 4)) := ((Below.refl _ _).alloc (Nat.le_refl _) _).alloc (by simp) _
  have B0 := Lib.hid b0
  have C0 : Hid (CbB ((w.alloc (.cells #[.int .u64 (h : Int)] 28)).alloc (.cells #[.bool false] 4)) (w.heap.size + 1) 4 #[.bool false]) := Lib.hid (by
    have := CbB.new (w.alloc (.cells #[.int .u64 (h : Int)] 28)) 4 #[.bool false]
    simpa using this)
  have HF := Lib.hid fun W => findNil (.int .u64 (h : Int)) W
  clear b0
  go_enter Try.func13, Try.ntmps13
  go_wp2_with fail
  refine (HF.out _).mono ?_
  rintro e w1 ⟨rfl, hb⟩
  have B1 := Lib.hid (below_tr B0.out hb B0.out.size)
  have C1 := Lib.hid (C0.out.ab (hb.mono (by simp)))
  have C2 := Lib.hid (C1.out.ab ((Below.refl _ _).alloc (Nat.le_refl _) (.cells #[.int .u8 0, .int .u64 0] 51)))
  have B2 := Lib.hid (B1.out.alloc B1.out.size (.cells #[.int .u8 0, .int .u64 0] 51))
  have hf := C2.out.free 0
  have hc := C2.out.cell (k := 0) rfl
  have C3 := Lib.hid (C2.out.set 0 (.bool false))
  clear hb HF B0 C0 C1
  go_wp2_with fail
  (try simp only [Exit.inBlock, Exit.then])
  have hc3 := C3.out.cell (k := 0) rfl
  refine bodyPost_ret (v := .bool false) ?_ rfl ?_
  · simp [results, asAddr, loadVar, Result.andThen, hc3]
    try go_simp
  exact ⟨rfl, B2.out.setCell (by simp) _⟩
theorem getC_last (l : CpL) (k : Nat) (x : Nat × Nat) (h : getC k l = none) : getC k (l ++ [(k, x)]) = some x := by
  unfold getC at h ⊢
  rw [Option.map_eq_none_iff] at h
  rw [List.find?_append, h]
  simp
set_option maxRecDepth 100000 in
set_option maxHeartbeats 2000000 in
theorem known25_any (w : World) : Calls Try.prog 4 #[] w fun e w' => e = .returned (.bool true) ∧ Below w.heap.size w w' := by
  go_enter Try.func4, Try.ntmps4
  go_wp2_with fail
  refine (capsNew_any w).mono ?_
  rintro e w1 ⟨rfl, hc, hb⟩
  have C1 := Lib.hid hc
  have B1 := Lib.hid hb
  have BG : Hid (w.heap.size ≤ w.heap.size) := Lib.hid (Nat.le_refl _)
  clear hc hb
  generalize hgc : w.heap.size = c at C1 ⊢
  go_wp2_with fail
  refine (attach_any _ c 0 none [] w1 C1.out (by decide) (by decide)).mono ?_
  rintro e w2 (⟨_, m2, rfl, hc, hf, _⟩ | ⟨h, _⟩)
  case inr => exact absurd h (by decide)
  have C2 := Lib.hid hc
  have B2 : Hid (Below w.heap.size w w2) := Lib.hid (Fr.below hf (fun k hk => by rcases hk with rfl | hk; exact Nat.le_of_eq hgc; cases hk) B1.out B1.out.size)
  clear hc hf C1 B1
  go_wp2_with fail
  have e2 : giveE 1 9 ([] ++ [(0 + 1, (15, 0))]) = 0 := by decide
  refine (give_any _ c (0 + 1) 1 9 (some m2) ([] ++ [(0 + 1, (15, 0))]) w2 C2.out (by unfold u64Ok; decide) (by decide) (by decide)).mono ?_
  rintro e w3 (⟨h, _⟩ | ⟨_, ⟨_, m3, rfl, hc, hf, _⟩ | ⟨h, _⟩⟩)
  case inl => exact absurd e2 h
  case inr.inr => exact absurd h (by decide)
  have C3 := Lib.hid hc
  have B3 : Hid (Below w.heap.size w w3) := Lib.hid (Fr.below hf (fun k hk => by
    rcases hk with rfl | hk
    · exact Nat.le_of_eq hgc
    · have := (C2.out.map k hk).1; omega) B2.out B2.out.size)
  clear hc hf e2
  go_wp2_with fail
  have e3 : giveE 2 2 ([] ++ [(0 + 1, (15, 0))] ++ [(0 + 1 + 1, (9, 1))]) = 250 := by decide
  refine (give_any _ c (0 + 1 + 1) 2 2 (some m3) ([] ++ [(0 + 1, (15, 0))] ++ [(0 + 1 + 1, (9, 1))]) w3 C3.out (by unfold u64Ok; decide) (by decide) (by decide)).mono ?_
  rintro e w4 (⟨_, rfl, hb⟩ | ⟨h, _⟩)
  case inr => rw [e3] at h; cases h
  have B4 := Lib.hid (below_tr B3.out hb B3.out.size)
  clear hb C2 C3
  rw [e3]
  clear e3
  go_wp2_with fail
  go_ret
  exact ⟨rfl, B4.out⟩
end Go.Proofs.Ytobjdhpdljiijaa
