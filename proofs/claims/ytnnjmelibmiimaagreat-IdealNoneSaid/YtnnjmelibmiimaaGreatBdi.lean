/-
  IDEAL: known: the walk.
-/
import Derived.Test.YtnnjmelibmiimaaGreatBdh
import Derived.Test.YtnnjmelibmiimaaGreatBda
import Derived.JoinedOf
namespace Go.Proofs.YtnnjmelibmiimaaGreat
open Go.RowKit
set_option linter.unusedVariables false
set_option linter.unusedSimpArgs false

/-- one op, of one key and one value of a byte each -/
theorem opsB_one (w : World) : OpsB (((w.alloc (.cells #[.int .u8 107] 5 (1, 2))).alloc (.cells #[.int .u8 50] 5 (1, 2))).alloc (.cells #[.slice (some ⟨w.heap.size, 0, none⟩) 1 1, .slice (some ⟨w.heap.size + 1, 0, none⟩) 1 1, .bool false] 68)) (some ⟨w.heap.size + 1 + 1, 0, none⟩) 1 1 [opK w.heap.size (w.heap.size + 1)] := by
  have i1 : IsB (w.alloc (.cells #[.int .u8 107] 5 (1, 2))) (some ⟨w.heap.size, 0, none⟩) 1 1 [107] := isB_marked (t := 5) (l := [107]) (heap_alloc_new w _) (fun x hx => by simp at hx; omega) (by simp) (by decide)
  have i2 : IsB ((w.alloc (.cells #[.int .u8 107] 5 (1, 2))).alloc (.cells #[.int .u8 50] 5 (1, 2))) (some ⟨(w.alloc (.cells #[.int .u8 107] 5 (1, 2))).heap.size, 0, none⟩) 1 1 [50] := isB_marked (t := 5) (l := [50]) (heap_alloc_new (w.alloc (.cells #[.int .u8 107] 5 (1, 2))) _) (fun x hx => by simp at hx; omega) (by simp) (by decide)
  have e2 : (w.alloc (.cells #[.int .u8 107] 5 (1, 2))).heap.size = w.heap.size + 1 := by simp
  rw [e2] at i2
  have cb : CbB (((w.alloc (.cells #[.int .u8 107] 5 (1, 2))).alloc (.cells #[.int .u8 50] 5 (1, 2))).alloc (.cells #[.slice (some ⟨w.heap.size, 0, none⟩) 1 1, .slice (some ⟨w.heap.size + 1, 0, none⟩) 1 1, .bool false] 68)) (w.heap.size + 1 + 1) 68 #[.slice (some ⟨w.heap.size, 0, none⟩) 1 1, .slice (some ⟨w.heap.size + 1, 0, none⟩) 1 1, .bool false] := CbB.newI (by simp)
  refine ⟨rfl, Nat.le_refl _, by decide, fun i o ho => ?_⟩
  rcases i with _ | i
  · simp only [List.getElem?_cons_zero, Option.some.injEq] at ho
    subst ho
    exact ⟨⟨w.heap.size + 1 + 1, 0, none⟩, rfl, cb.lt, cb.cell (k := 0) rfl, cb.cell (k := 1) rfl, cb.cell (k := 2) rfl, (i1.ab ((Below.refl _ _).alloc (Nat.le_refl _) _)).ab ((Below.refl _ _).alloc (Nat.le_refl _) _), i2.ab ((Below.refl _ _).alloc (Nat.le_refl _) _)⟩
  · simp at ho
set_option maxRecDepth 100000 in
set_option maxHeartbeats 4000000 in
theorem known26_any (w : World) : Calls Tryz.prog 8 #[] w fun e w' => e = .returned (.bool true) ∧ Below w.heap.size w w' := by
  have HN := Lib.hid (idNew_any 100 (by decide) (by decide) w (fun _ => none))
  have HS := Lib.hid fun W => secret_any W
  have hkc := fun (w : World) (C : Array Value) (n c : Nat) => Lib.run_convert_bytes_const (P := Tryz.prog) w 31 5 C n c Tryz.underlying31 Tryz.underlying5
  have hf0 := fun e h sn n A1 n1 c1 A2 n2 c2 A3 n3 c3 w => run_fieldA e h sn n A1 n1 c1 A2 n2 c2 A3 n3 c3 0 _ rfl w
  have hf1 := fun e h sn n A1 n1 c1 A2 n2 c2 A3 n3 c3 w => run_fieldA e h sn n A1 n1 c1 A2 n2 c2 A3 n3 c3 1 _ rfl w
  go_enter Tryz.func8, Tryz.ntmps8
  go_wp2_with fail
  refine HN.out.mono ?_
  rintro e w1 ⟨rfl, ib, sz, hb⟩
  have K1 : Hid (KnS w (w.heap.size + 1) [] w1 (newTg (fun _ => none) w.heap.size (w.heap.size + 1))) := Lib.hid ⟨ib, hb, fun k hk => by unfold newTg; rw [if_neg (by omega)]⟩
  clear ib sz hb HN
  go_wp2_with fail
  refine (HS.out _).mono ?_
  rintro e w2 ⟨rfl, hs, hb⟩
  have K2 := Lib.hid (K1.out.ab hb)
  have HC := Lib.hid (kn_create w1.heap.size K2.out hs)
  clear hs hb
  unfold kn1 CallP.cs nilA at HC
  dsimp only at HC
  go_wp2_with fail
  refine HC.out.mono ?_
  intro e w3 hd
  obtain ⟨cs3, O3, rfl, an, k3, _⟩ := K2.out.step hd
  obtain ⟨A3, n3, c3, B3, b3, d3, L3, q3, z3, rfl, ho3⟩ := an.err
  have K3 := Lib.hid k3
  clear hd an ho3 k3 HC K2 K1
  dsimp only [errA]
  go_wp2_with fail
  refine (HS.out _).mono ?_
  rintro e w4 ⟨rfl, hs, hb⟩
  have K4 := Lib.hid (K3.out.ab hb)
  have HC := Lib.hid (kn_attach w3.heap.size K4.out hs)
  clear hs hb
  unfold kn2 CallP.cs nilA at HC
  dsimp only at HC
  go_wp2_with fail
  refine HC.out.mono ?_
  intro e w5 hd
  obtain ⟨cs5, O5, rfl, an, k5, _⟩ := K4.out.step hd
  obtain ⟨A5, n5, c5, B5, b5, d5, L5, q5, z5, rfl, ho5⟩ := an.err
  have K5 := Lib.hid k5
  clear hd an ho5 k5 HC K4 K3
  have hdv : ((hdA 4294967297).hd : Int) = 4294967297 := rfl
  rw [hdv]
  clear hdv
  have hk2 : ∀ W : World, (convert 31 31 (.slice (some ⟨W.heap.size + 1, 0, none⟩) 1 1)).run Tryz.prog ((W.alloc (.cells #[.int .u8 107] 5 (1, 2))).alloc (.cells #[.int .u8 50] 5)) = .ok (.slice (some ⟨W.heap.size + 1, 0, none⟩) 1 1) ((W.alloc (.cells #[.int .u8 107] 5 (1, 2))).alloc (.cells #[.int .u8 50] 5 (1, 2))) := fun W => by
    have := hkc (W.alloc (.cells #[.int .u8 107] 5 (1, 2))) #[.int .u8 50] 1 1
    simpa using this
  have b6 : Below w5.heap.size w5 (((w5.alloc (.cells #[.int .u8 107] 5 (1, 2))).alloc (.cells #[.int .u8 50] 5 (1, 2))).alloc (.cells #[.slice (some ⟨w5.heap.size, 0, none⟩) 1 1, .slice (some ⟨w5.heap.size + 1, 0, none⟩) 1 1, .bool false] 68)) := (((Below.refl _ _).alloc (Nat.le_refl _) _).alloc (by simp) _).alloc (by simp; omega) _
  have K6 := Lib.hid (K5.out.ab b6)
  have HC := Lib.hid (kn_batch (w5.heap.size + 1 + 1) w5.heap.size (w5.heap.size + 1) K6.out (opsB_one w5))
  clear b6
  unfold kn3 CallP.cs nilA at HC
  dsimp only at HC
  go_wp2_with fail
  refine HC.out.mono ?_
  intro e w7 hd
  obtain ⟨cs7, O7, rfl, an, k7, _⟩ := K6.out.step hd
  obtain ⟨A7, n7, c7, B7, b7, d7, L7, q7, z7, rfl, ho7⟩ := an.err
  have K7 := Lib.hid k7
  clear hd an ho7 k7 HC K6 K5
  dsimp only [errA]
  go_upto_region 6 with (fail)
  have ba : Below w7.heap.size w7 (w7.alloc (.cells #[.int .i64 0, .int .u64 0, .int .u64 0, .slice A7 n7 c7, .slice B7 b7 d7, .int .i64 0, .slice L7 q7 z7] 40)) := (Below.refl _ _).alloc (Nat.le_refl _) _
  have k8 := K7.out.ab ba
  have cb8 := CbB.new w7 40 #[.int .i64 0, .int .u64 0, .int .u64 0, .slice A7 n7 c7, .slice B7 b7 d7, .int .i64 0, .slice L7 q7 z7]
  have t8 : cutTg O7 w7.heap.size w7.heap.size = some (0, 0) := cutTg_at (Nat.le_refl _)
  obtain ⟨w8, hw8⟩ : ∃ w8, w7.alloc (.cells #[.int .i64 0, .int .u64 0, .int .u64 0, .slice A7 n7 c7, .slice B7 b7 d7, .int .i64 0, .slice L7 q7 z7] 40) = w8 := ⟨_, rfl⟩
  rw [hw8] at k8 cb8 ⊢
  have b9 : Below w8.heap.size w8 (w8.alloc (.cells #[.int .u8 107] 5 (1, 2))) := (Below.refl _ _).alloc (Nat.le_refl _) _
  have k9 := k8.ab b9
  have t9 : cutTg (cutTg O7 w7.heap.size) w8.heap.size w7.heap.size = some (0, 0) := by rw [show cutTg (cutTg O7 w7.heap.size) w8.heap.size w7.heap.size = cutTg O7 w7.heap.size w7.heap.size from by unfold cutTg; rw [if_pos cb8.lt]]; exact t8
  have i9 : IsB (w8.alloc (.cells #[.int .u8 107] 5 (1, 2))) (some ⟨w8.heap.size, 0, none⟩) 1 1 [107] := isB_marked (t := 5) (l := [107]) (heap_alloc_new w8 _) (fun x hx => by simp at hx; omega) (by simp) (by decide)
  have cb9 := cb8.ab b9
  have HC := Lib.hid (kn_get w8.heap.size k9 i9)
  have K9 := Lib.hid k9
  have C9 := Lib.hid cb9
  have T9 := Lib.hid t9
  clear ba k8 cb8 t8 b9 k9 t9 i9 cb9 hw8 K7
  unfold kn4 CallP.cs nilA at HC
  dsimp only at HC
  go_wp2_with fail
  refine HC.out.mono ?_
  intro e w10 hd
  obtain ⟨cs10, O10, rfl, an, k10, st⟩ := K9.out.step hd
  obtain ⟨A1, n1, c1, B1, b1, d1, L1, q1, z1, rfl, ho10⟩ := an.err
  have cb10 : CbB w10 w7.heap.size 40 _ := (st.ot C9.out.lt T9.out (fun e => by have h2 : (0 : Nat) = w.heap.size + 1 := e; omega)).1.trans C9.out
  obtain ⟨A2, c2, he2, _, _⟩ := ho10.shape
  simp only [valA, Value.slice.injEq] at he2
  obtain ⟨rfl, rfl, rfl⟩ := he2
  have i10 := ho10.isB rfl
  have K10 := Lib.hid k10
  have C10 := Lib.hid cb10
  have I10 := Lib.hid i10
  clear hd an ho10 k10 st cb10 i10 HC K9 C9 T9
  dsimp only [valA]
  go_upto_region 7 with (fail)
  have ba : Below w10.heap.size w10 (w10.alloc (.cells #[.int .i64 0, .int .u64 0, .int .u64 0, .slice A1 1 c1, .slice B1 b1 d1, .int .i64 0, .slice L1 q1 z1] 40)) := (Below.refl _ _).alloc (Nat.le_refl _) _
  have k11 := (K10.out.ab ba).bl
  have x5 := CbB.new w10 40 #[.int .i64 0, .int .u64 0, .int .u64 0, .slice A1 1 c1, .slice B1 b1 d1, .int .i64 0, .slice L1 q1 z1]
  have x4 := C10.out.ab ba
  have i11 := I10.out.ab ba
  obtain ⟨w11, hw11⟩ : ∃ w11, w10.alloc (.cells #[.int .i64 0, .int .u64 0, .int .u64 0, .slice A1 1 c1, .slice B1 b1 d1, .int .i64 0, .slice L1 q1 z1] 40) = w11 := ⟨_, rfl⟩
  rw [hw11] at k11 x5 x4 i11 ⊢
  have y4 : w11.cell? ⟨w7.heap.size, 0, none⟩ = some (.int .i64 0) := x4.cell (k := 0) rfl
  have y5 : w11.cell? ⟨w10.heap.size, 0, none⟩ = some (.int .i64 0) := x5.cell (k := 0) rfl
  have y6 : w11.cell? ⟨w10.heap.size, 3, none⟩ = some (.slice A1 1 c1) := x5.cell (k := 3) rfl
  have hst : (convert 31 9 (.slice A1 1 c1)).run Tryz.prog w11 = .ok (.string ⟨#[50]⟩) w11 := run_str i11 31 5 9 Tryz.underlying31 Tryz.underlying5 Tryz.underlying9
  have KB := Lib.hid k11
  clear ba k11 x5 x4 i11 hw11 K10 C10 I10
  go_wp2_with fail
  go_ret
  exact ⟨rfl, KB.out⟩
end Go.Proofs.YtnnjmelibmiimaaGreat
namespace Go.Proofs.YtnnjmelibmiimaaGreat
open Go.RowKit
set_option linter.unusedVariables false
set_option linter.unusedSimpArgs false

def knN (kind : Int) (n : Nat) : CallP := ⟨kind, n, nilA, 0, 0, 0, 0, 0, 0, none, 0, 0, [], nilA, nilA, nilA, false⟩
set_option maxRecDepth 100000 in
set_option maxHeartbeats 4000000 in
theorem idealNone_walk (tenant kind : Int) (w : World) (ht : (Lit.int .u32 tenant).wf = true) (hk : (Lit.int .i64 kind).wf = true) :
    Calls Tryz.prog 6 #[.int .u32 tenant, .int .i64 kind] w fun e w' => e = .returned (.bool true) ∧ Below w.heap.size w w' := by
  obtain ⟨n, rfl⟩ : ∃ n : Nat, tenant = (n : Int) := by
    have e3 : IntKind.u32.min = 0 := rfl
    simp only [Lit.wf, Bool.and_eq_true, decide_eq_true_eq] at ht
    exact Int.eq_ofNat_of_zero_le (by omega)
  clear ht hk
  have HK := Lib.hid fun W => known26_any W
  have ba : Below w.heap.size w ((w.alloc (.cells #[.int .i64 0, .map none] 64)).alloc (.cells #[.pointer none, .pointer (some ⟨w.heap.size, 0, none⟩)] 24)) := ((Below.refl _ _).alloc (Nat.le_refl _) _).alloc (by simp) _
  have x1 : CbB ((w.alloc (.cells #[.int .i64 0, .map none] 64)).alloc (.cells #[.pointer none, .pointer (some ⟨w.heap.size, 0, none⟩)] 24)) w.heap.size 64 #[.int .i64 0, .map none] := (CbB.new w _ _).ab ((Below.refl _ _).alloc (Nat.le_refl _) _)
  have x2 : CbB ((w.alloc (.cells #[.int .i64 0, .map none] 64)).alloc (.cells #[.pointer none, .pointer (some ⟨w.heap.size, 0, none⟩)] 24)) (w.heap.size + 1) 24 #[.pointer none, .pointer (some ⟨w.heap.size, 0, none⟩)] := CbB.newI (by simp)
  go_enter Tryz.func6, Tryz.ntmps6
  go_upto_region 3 with (fail)
  obtain ⟨w0, hw0⟩ : ∃ w0, ((w.alloc (.cells #[.int .i64 0, .map none] 64)).alloc (.cells #[.pointer none, .pointer (some ⟨w.heap.size, 0, none⟩)] 24)) = w0 := ⟨_, rfl⟩
  rw [hw0] at ba x1 x2 ⊢
  have BA := Lib.hid ba
  have X1 := Lib.hid x1
  have X2 := Lib.hid x2
  clear hw0 ba x1 x2
  go_wp2_with fail
  go_loopw [7] (fun z wr => ∃ k : Nat, k ≤ 2 ∧ z = .int .i64 (k : Int) ∧ Below w0.heap.size w0 wr) (fun z _ => 2 - (intOf z).toNat)
  case atStart => exact ⟨0, by omega, rfl, Below.refl _ _⟩
  case round =>
    obtain ⟨k, hk, rfl, hb⟩ := hrel
    have HB := Lib.hid hb
    by_cases hlt : k < 2
    · have hlti : (k : Int) < 2 := by omega
      have hk0 : (0 : Int) ≤ (k : Int) := by omega
      have hkn : (k : Int).toNat = k := by omega
      obtain ⟨po, hc, hn⟩ : ∃ po : Option Addr, (∀ W, Below wr.heap.size wr W → W.cell? ⟨w.heap.size + 1, k, none⟩ = some (.pointer po)) ∧ ∀ W, Below wr.heap.size wr W → Calls Tryz.prog 25 #[.pointer po] W fun r w' => r = .returned (.bool true) ∧ W = w' := by
        rcases k with _ | _ | k
        · exact ⟨none, fun W hW => (X2.out.ab (below_tr hb hW hb.size)).cell (k := 0) rfl, fun W _ => none_nil W⟩
        · exact ⟨some ⟨w.heap.size, 0, none⟩, fun W hW => (X2.out.ab (below_tr hb hW hb.size)).cell (k := 1) rfl, fun W hW => none_zero w.heap.size _ W (X1.out.ab (below_tr hb hW hb.size))⟩
        · omega
      have HC := Lib.hid hc
      have HD := Lib.hid (do_none po (c := knN kind n) hn)
      have HNN := Lib.hid hn
      have KL := Lib.hid hlt
      have hc1 := hc wr (Below.refl _ _)
      unfold knN CallP.cs nilA at HD
      dsimp only at HD
      clear hb hc hn hlt hk
      go_wp2_with fail
      refine HD.out.mono ?_
      rintro e w1 ⟨rfl, hb1⟩
      have B1 := Lib.hid hb1
      unfold ansE
      clear hb1 hc1 HD
      go_upto_region 7 with (fail)
      have b2 : Below wr.heap.size wr (w1.alloc (.cells #[.int .i64 1, .int .u64 0, .int .u64 0, .slice none 0 0, .slice none 0 0, .int .i64 0, .slice none 0 0] 40)) := B1.out.alloc B1.out.size _
      have x0 := CbB.new w1 40 #[.int .i64 1, .int .u64 0, .int .u64 0, .slice none 0 0, .slice none 0 0, .int .i64 0, .slice none 0 0]
      obtain ⟨w2, hw2⟩ : ∃ w2, w1.alloc (.cells #[.int .i64 1, .int .u64 0, .int .u64 0, .slice none 0 0, .slice none 0 0, .int .i64 0, .slice none 0 0] 40) = w2 := ⟨_, rfl⟩
      rw [hw2] at b2 x0 ⊢
      have hn2 : ∀ W, Below w2.heap.size w2 W → Calls Tryz.prog 25 #[.pointer po] W fun r w' => r = .returned (.bool true) ∧ W = w' := fun W hW => HNN.out W (below_tr b2 hW b2.size)
      have HM := Lib.hid (map_none po n hn2)
      have HO := Lib.hid (open_none po 0 hn2)
      have HY := Lib.hid (copy_none po 0 hn2)
      have hc2 := HC.out w2 b2
      have y0 : w2.cell? ⟨w1.heap.size, 0, none⟩ = some (.int .i64 1) := x0.cell (k := 0) rfl
      have B2 := Lib.hid (below_tr HB.out b2 HB.out.size)
      clear b2 x0 hn2 hw2 HNN HC B1
      go_wp2_with fail
      refine HM.out.mono ?_
      rintro e w3 ⟨rfl, rfl⟩
      go_wp2_with fail
      refine HO.out.mono ?_
      rintro e w3 ⟨rfl, rfl⟩
      go_wp2_with fail
      refine HY.out.mono ?_
      rintro e w3 ⟨rfl, rfl⟩
      go_wp2_with fail
      go_roundw
      case rel => exact ⟨k + 1, KL.out, by go_num, B2.out⟩
      case measure => simp [intOf]; have := KL.out; omega
    · obtain rfl : k = 2 := by omega
      clear hb hlt hk
      go_wp2_with fail
      refine (HK.out _).mono ?_
      rintro e w3 ⟨rfl, hb3⟩
      have B3 := Lib.hid (below_tr BA.out (below_tr HB.out hb3 HB.out.size) BA.out.size)
      clear hb3 HK
      go_wp2_with fail
      go_ret
      exact ⟨rfl, B3.out⟩
end Go.Proofs.YtnnjmelibmiimaaGreat
namespace Go.Proofs.YtnnjmelibmiimaaGreat
open Go.ChangeShapes Go.WideShapes Go.ChangeAt Go.RowKit

theorem make_of {P : Program} {l : List Char} (h : P.initOrder = String.ofList l) (hw : (match behindMainWord (wordsSigns l) with | c :: _ => !(c == "gc".toList || c == "spec".toList) && c == "cut".toList | [] => false) = true) : P.make = some .cut := by
  unfold Program.make
  rw [h, String.toList_ofList]
  revert hw
  generalize behindMainWord (wordsSigns l) = W
  cases W with
  | nil => intro hw; cases hw
  | cons c r =>
    intro hw
    simp only [Bool.and_eq_true, Bool.not_eq_true'] at hw
    simp only [hw.1, hw.2, Bool.true_or, if_true]
    rfl
theorem lifts_of {P : Program} {l : List Char} (h : P.initOrder = String.ofList l) (hw : (!((behindMainWord (wordsSigns l)).head? == some "carried".toList) && (stripLifts liftWords (behindMainWord (wordsSigns l))).1.isEmpty) = true) : P.liftsFinal = false := by
  unfold Program.liftsFinal Program.headLifts
  rw [h, String.toList_ofList]
  revert hw
  generalize behindMainWord (wordsSigns l) = W
  intro hw
  simp only [Bool.and_eq_true, Bool.not_eq_true', List.isEmpty_iff] at hw
  simp only [hw.1, hw.2, Bool.false_and, Bool.false_or]
  split <;> rfl
theorem enter_of {P : Program} {l : List Char} (h : P.initOrder = String.ofList l) (hw : (match behindMainWord (wordsSigns l) with | c :: rest => ((stripLifts liftWords (c :: rest)).2.head? == some "cut".toList && (stripLifts liftWords (c :: rest)).1.isEmpty) | [] => false) = true)
    (hl : P.laysLater = false) (hr : P.bearsReflect = false) (hd : P.doorRows = []) : P.mayEnter = true := by
  unfold Program.mayEnter Program.doorFits
  rw [h, String.toList_ofList]
  revert hw
  generalize behindMainWord (wordsSigns l) = W
  cases W with
  | nil => intro hw; cases hw
  | cons c r =>
    intro hw
    simp only [Bool.and_eq_true, List.isEmpty_iff] at hw
    simp only [hw.1, hw.2, hl, hr, hd]
    simp
set_option maxRecDepth 1000000 in
theorem J.make : Tryz.checked.prog.make = some .cut := make_of rfl (by kernel_rfl)
set_option maxRecDepth 1000000 in
theorem J.lifts : Tryz.checked.prog.liftsFinal = false := lifts_of rfl (by kernel_rfl)
set_option maxRecDepth 1000000 in
theorem J.enter : Tryz.checked.prog.mayEnter = true := enter_of rfl (by kernel_rfl) (by kernel_rfl) (by kernel_rfl) (by kernel_rfl)
theorem joined_of {P : Program} {f : FuncId} {fn : Func} {s : ChangeSpec} {c : OpenClaim} (h1 : P.mayEnter = true) (h2 : P.liftsFinal = false) (h3 : P.make = some .cut) (h4 : c.lifted = false) (h5 : c.make = .cut)
    (h : (c.wf (OpenSpec.ofChange s) && laidOutB P && mapsRowed P &&
      fn.params.all (P.readableRec ·) && namedTie P c.named s.vars &&
      (c.stops == []) && (P.stops == []) && (c.knobs == []) && (P.stopKnobs == []) &&
      (c.inPlace == P.inPlace f) && (c.unfollowed == P.unfollowed f) && (c.recurses == P.recurses f) && (c.named == P.varsNamed f) &&
      (c.maps == (fn.params.toList ++ s.plain.varTypes P).any (P.mapsRec ·)) && (c.ifaces == (fn.params.toList ++ s.plain.varTypes P).any (P.ifacesRec ·)) && (c.mapsOut == P.mapsAmong fn.resultTypes.toList) &&
      (c.loops == (fn.params.toList ++ s.plain.varTypes P).any (P.loopsFrom ·)) && (c.wideKeys == (fn.params.toList ++ s.plain.varTypes P ++ fn.resultTypes.toList).any (P.wideKeysFrom ·)) &&
      s.vars.all (P.varReadable ·) && fn.resultTypes.all (fun t => P.readableRec t && decide (t < P.types.size)) && (c.ifacesOut == fn.resultTypes.toList.any (P.ifacesRec ·)) && (c.loopsOut == fn.resultTypes.toList.any (P.loopsFrom ·)) && (c.plainKeys == P.plainKeys) && c.shortTexts.isNone && P.stopsHeard) = true)
    (k : ((c.kinds == (if c.domain.isEmpty then [] else fn.params.toList.map fun t => match P.underlying t with | some (.int k) => some k | _ => none)) && (c.pinned == c.pinnedBy) &&
      (c.veiled == (fn.params.toList ++ s.plain.varTypes P ++ fn.resultTypes.toList).any (P.veiledRec ·)) && c.veiledFits P fn.params.toList (fn.params.toList ++ s.plain.varTypes P ++ fn.resultTypes.toList)) = true) : joinedFacts P f fn s c = true := by
  unfold joinedFacts
  rw [h, h1, h2, h3, h4, h5]
  simp only [Bool.true_and]
  simp only [Bool.and_eq_true] at k
  simp only [Bool.and_eq_true, k, and_true]
  exact ⟨⟨rfl, by decide⟩, k.1.1.1⟩
end Go.Proofs.YtnnjmelibmiimaaGreat
