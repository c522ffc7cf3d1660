/-
  HierWraps: the walk.
-/
import Derived.Test.YtpofndciepoooaaHiG
namespace Go.Proofs.Ytpofndciepoooaa
open Go.RowKit
set_option linter.unusedVariables false

theorem own_ne {w : World} {A : Option Addr} {B n c g7 : Nat} {l : List Nat} {cs : Array Value} (h : OwB w B (.slice A n c) l) (k : HdB w g7 cs) : ApartB (.slice A n c) g7 := by
  intro b hb e
  subst e
  rcases h.own.2 with ⟨h1, h0⟩ | ⟨g', cap, cur, e, hb', hgg, -⟩
  · injection h1 with h1 _ _
    subst h1
    cases hb
  · injection e with e _ _
    subst e
    have e2 : g' = b := by simpa [Value.ownBlock] using hb
    subst e2
    have := hgg.symm.trans k
    simp at this
set_option maxRecDepth 100000 in
set_option maxHeartbeats 8000000 in
theorem wraps_bad1 (A kA sA : Option Addr) (n kn c kc sn sc ten gn cm : Nat) (root key s : List Nat) (w : World) (ir : IsB w A n c root) (ik : IsB w kA kn kc key) (is : IsB w sA sn sc s) (ht : ten < 4294967296) (hg : gn < 65536) (hc : cm < 18446744073709551616) (hk : n ≤ 100000) (hs : kn ≤ 100000) (hne : n ≠ 32) :
    Calls Try.prog 17 #[.slice A n c, .slice kA kn kc, .int .u32 (ten : Int), .agg #[.int .u16 (gn : Int), .int .u64 (cm : Int), .slice sA sn sc]] w fun e w' => e = .returned (.bool true) ∧ Below w.heap.size w w' := by
  have IR : Hid (IsB (w.alloc (.cells #[.int .u16 (gn : Int), .int .u64 (cm : Int), .slice sA sn sc] 67)) A n c root) := Lib.hid (ir.alloc _)
  have IK : Hid (IsB (w.alloc (.cells #[.int .u16 (gn : Int), .int .u64 (cm : Int), .slice sA sn sc] 67)) kA kn kc key) := Lib.hid (ik.alloc _)
  have R0 : Hid (HdB (w.alloc (.cells #[.int .u16 (gn : Int), .int .u64 (cm : Int), .slice sA sn sc] 67)) w.heap.size #[.int .u16 (gn : Int), .int .u64 (cm : Int), .slice sA sn sc]) := Lib.hid (boxH w _)
  have B0 : Hid (Below w.heap.size w (w.alloc (.cells #[.int .u16 (gn : Int), .int .u64 (cm : Int), .slice sA sn sc] 67))) := Lib.hid (boxB w _)
  have h1 : decide ((100000 : Int) < (n : Int)) = false := by simp; omega
  have h2 : decide ((100000 : Int) < (kn : Int)) = false := by simp; omega
  have h3 : ((n : Int) != 32) = true := by simp; omega
  have RN : Hid (n ≤ 1000000) := Lib.hid (by omega)
  have KN : Hid (kn ≤ 1000000) := Lib.hid (by omega)
  have HW := Lib.hid fun g1 d1 g2 d2 W h => fun (_ : IsB W (some ⟨g2, 0, none⟩) kn d2 key) => wrap_bad (some ⟨g1, 0, none⟩) (some ⟨g2, 0, none⟩) n d1 kn d2 ten gn cm root W h hg (by omega)
  clear hk hs hne
  clear ir ik is ht hg hc
  obtain ⟨x0, x1, x2⟩ := R0.out.cells
  go_enter Try.func17, Try.ntmps17
  go_wp2_with fail
  refine (lent_any A n c root _ IR.out RN.out).mono ?_
  rintro e w1 ⟨g1, d1, rfl, hl, hb⟩
  have L1 := Lib.hid hl
  have IR1 := Lib.hid (IR.out.ab hb)
  have IK1 := Lib.hid (IK.out.ab hb)
  have R1 := Lib.hid (R0.out.ab hb)
  have B1 := Lib.hid (below_tr B0.out hb B0.out.size)
  clear hl hb IR IK R0 B0 x0 x1 x2
  obtain ⟨x0, x1, x2⟩ := R1.out.cells
  go_wp2_with fail
  refine (lent_any kA kn kc key _ IK1.out KN.out).mono ?_
  rintro e w2 ⟨g2, d2, rfl, hl, hb⟩
  have M2 := Lib.hid hl
  have L2 := Lib.hid (L1.out.ab hb)
  have IR2 := Lib.hid (IR1.out.ab hb)
  have IK2 := Lib.hid (IK1.out.ab hb)
  have R2 := Lib.hid (R1.out.ab hb)
  have B2 := Lib.hid (below_tr B1.out hb B1.out.size)
  clear hl hb L1 IR1 IK1 R1 B1 x0 x1 x2
  obtain ⟨x0, x1, x2⟩ := R2.out.cells
  go_wp2_with fail
  refine (HW.out g1 d1 g2 d2 w2 L2.out.isB M2.out.isB).mono ?_
  rintro e w3 ⟨rfl, hb⟩
  have V3 : Hid (IsB w3 none 0 0 []) := Lib.hid (isB_nil _)
  have L3 := Lib.hid (L2.out.ab hb)
  have M3 := Lib.hid (M2.out.ab hb)
  have IR3 := Lib.hid (IR2.out.ab hb)
  have IK3 := Lib.hid (IK2.out.ab hb)
  have R3 := Lib.hid (R2.out.ab hb)
  have B3 := Lib.hid (below_tr B2.out hb B2.out.size)
  clear hb L2 M2 IR2 IK2 R2 B2 x0 x1 x2
  go_wp2_with ((with_reducible refine wpList_store3 (o := ⟨none, .store _ (.tmp 11) (.tmp 38), _, _, _, _⟩) rfl (.tmp 11) (.tmp 38) ?_ w3.heap.size ?_ #[.int .u16 0, .int .u64 0, .slice none 0 0] ?_ ?_ ?_ (cs := #[.int .u16 0, .int .u64 0, .slice none 0 0]) ?_ ?_ ?_)
               · rfl
               · rfl
               · rfl
               · rfl
               · (simp [Value.oneCell'])
               · exact heap_alloc_new w3 _
               · rfl
               intro w6 hw6
               have hb6 : Below w3.heap.size w3 w6 := by rw [hw6]; exact Below.row ((Below.refl _ _).alloc (Nat.le_refl _) _) (Nat.le_refl _) _
               have K6 : Hid (HdB w6 w3.heap.size #[.int .u16 0, .int .u64 0, .slice none 0 0]) := Lib.hid (by rw [hw6]; exact HdB.row (w := w3.alloc (.cells #[.int .u16 0, .int .u64 0, .slice none 0 0] 67)) (heap_alloc_new w3 _) _)
               have L6 := Lib.hid (L3.out.ab hb6)
               have M6 := Lib.hid (M3.out.ab hb6)
               have IR6 := Lib.hid (IR3.out.ab hb6)
               have IK6 := Lib.hid (IK3.out.ab hb6)
               have R6 := Lib.hid (R3.out.ab hb6)
               have V6 := Lib.hid (V3.out.ab hb6)
               have B6 := Lib.hid (below_tr B3.out hb6 B3.out.size)
               clear hw6)
  clear L3 M3 IR3 IK3 R3 V3 B3
  generalize w3.heap.size = g3 at *
  refine (kept_any _ _ _ _ _ _ w6 L6.out IR6.out RN.out).mono ?_
  rintro e w7 ⟨rfl, hb⟩
  have K7 := Lib.hid (K6.out.ab hb)
  have L7 := Lib.hid (L6.out.ab hb)
  have M7 := Lib.hid (M6.out.ab hb)
  have IR7 := Lib.hid (IR6.out.ab hb)
  have IK7 := Lib.hid (IK6.out.ab hb)
  have R7 := Lib.hid (R6.out.ab hb)
  have V7 := Lib.hid (V6.out.ab hb)
  have B7 := Lib.hid (below_tr B6.out hb B6.out.size)
  clear hb K6 L6 M6 IR6 IK6 R6 V6 B6
  go_wp2_with fail
  refine (kept_any _ _ _ _ _ _ w7 M7.out IK7.out KN.out).mono ?_
  rintro e w8 ⟨rfl, hb⟩
  have K8 := Lib.hid (K7.out.ab hb)
  have L8 := Lib.hid (L7.out.ab hb)
  have IR8 := Lib.hid (IR7.out.ab hb)
  have IK8 := Lib.hid (IK7.out.ab hb)
  have R8 := Lib.hid (R7.out.ab hb)
  have V8 := Lib.hid (V7.out.ab hb)
  have B8 := Lib.hid (below_tr B7.out hb B7.out.size)
  clear hb K7 L7 M7 IR7 IK7 R7 V7 B7
  obtain ⟨p0, p1, p2⟩ := K8.out.cells
  obtain ⟨x0, x1, x2⟩ := R8.out.cells
  go_wp2_with fail
  have hsame : Calls Try.prog 56 #[.agg #[.int .u16 0, .int .u64 0, .slice none 0 0], .agg #[.int .u16 0, .int .u64 0, .slice none 0 0]] w8 fun e w' => e = .returned (.bool true) ∧ Below w8.heap.size w8 w' := rsame_any none none 0 0 0 0 0 0 0 0 [] [] w8 (isB_nil _) (isB_nil _)
  refine hsame.mono ?_
  rintro e w9 ⟨rfl, hb⟩
  have B9 := Lib.hid (below_tr B8.out hb B8.out.size)
  clear hb hsame
  go_wp2_with fail
  refine (known22_any _).mono ?_
  rintro e w10 ⟨rfl, b9⟩
  have B9 := Lib.hid (below_tr B9.out b9 B9.out.size)
  clear b9
  go_wp2_with fail
  go_ret
  exact ⟨rfl, B9.out⟩
set_option maxRecDepth 100000 in
set_option maxHeartbeats 8000000 in
theorem wraps_bad2 (A kA sA : Option Addr) (n kn c kc sn sc ten gn cm : Nat) (root key s : List Nat) (w : World) (ir : IsB w A n c root) (ik : IsB w kA kn kc key) (is : IsB w sA sn sc s) (ht : ten < 4294967296) (hg : gn < 65536) (hc : cm < 18446744073709551616) (hk : n ≤ 100000) (hs : kn ≤ 100000) (hne : n = 32 ∧ kn ≠ 16) :
    Calls Try.prog 17 #[.slice A n c, .slice kA kn kc, .int .u32 (ten : Int), .agg #[.int .u16 (gn : Int), .int .u64 (cm : Int), .slice sA sn sc]] w fun e w' => e = .returned (.bool true) ∧ Below w.heap.size w w' := by
  have IR : Hid (IsB (w.alloc (.cells #[.int .u16 (gn : Int), .int .u64 (cm : Int), .slice sA sn sc] 67)) A n c root) := Lib.hid (ir.alloc _)
  have IK : Hid (IsB (w.alloc (.cells #[.int .u16 (gn : Int), .int .u64 (cm : Int), .slice sA sn sc] 67)) kA kn kc key) := Lib.hid (ik.alloc _)
  have R0 : Hid (HdB (w.alloc (.cells #[.int .u16 (gn : Int), .int .u64 (cm : Int), .slice sA sn sc] 67)) w.heap.size #[.int .u16 (gn : Int), .int .u64 (cm : Int), .slice sA sn sc]) := Lib.hid (boxH w _)
  have B0 : Hid (Below w.heap.size w (w.alloc (.cells #[.int .u16 (gn : Int), .int .u64 (cm : Int), .slice sA sn sc] 67))) := Lib.hid (boxB w _)
  have h1 : decide ((100000 : Int) < (n : Int)) = false := by simp; omega
  have h2 : decide ((100000 : Int) < (kn : Int)) = false := by simp; omega
  have h3 : ((n : Int) != 32) = false := by simp; omega
  have h4 : ((kn : Int) != 16) = true := by simp; omega
  have RN : Hid (n ≤ 1000000) := Lib.hid (by omega)
  have KN : Hid (kn ≤ 1000000) := Lib.hid (by omega)
  have HW := Lib.hid fun g1 d1 g2 d2 W h => fun (_ : IsB W (some ⟨g2, 0, none⟩) kn d2 key) => wrap_bad (some ⟨g1, 0, none⟩) (some ⟨g2, 0, none⟩) n d1 kn d2 ten gn cm root W h hg (by omega)
  clear hk hs hne
  clear ir ik is ht hg hc
  obtain ⟨x0, x1, x2⟩ := R0.out.cells
  go_enter Try.func17, Try.ntmps17
  go_wp2_with fail
  refine (lent_any A n c root _ IR.out RN.out).mono ?_
  rintro e w1 ⟨g1, d1, rfl, hl, hb⟩
  have L1 := Lib.hid hl
  have IR1 := Lib.hid (IR.out.ab hb)
  have IK1 := Lib.hid (IK.out.ab hb)
  have R1 := Lib.hid (R0.out.ab hb)
  have B1 := Lib.hid (below_tr B0.out hb B0.out.size)
  clear hl hb IR IK R0 B0 x0 x1 x2
  obtain ⟨x0, x1, x2⟩ := R1.out.cells
  go_wp2_with fail
  refine (lent_any kA kn kc key _ IK1.out KN.out).mono ?_
  rintro e w2 ⟨g2, d2, rfl, hl, hb⟩
  have M2 := Lib.hid hl
  have L2 := Lib.hid (L1.out.ab hb)
  have IR2 := Lib.hid (IR1.out.ab hb)
  have IK2 := Lib.hid (IK1.out.ab hb)
  have R2 := Lib.hid (R1.out.ab hb)
  have B2 := Lib.hid (below_tr B1.out hb B1.out.size)
  clear hl hb L1 IR1 IK1 R1 B1 x0 x1 x2
  obtain ⟨x0, x1, x2⟩ := R2.out.cells
  go_wp2_with fail
  refine (HW.out g1 d1 g2 d2 w2 L2.out.isB M2.out.isB).mono ?_
  rintro e w3 ⟨rfl, hb⟩
  have V3 : Hid (IsB w3 none 0 0 []) := Lib.hid (isB_nil _)
  have L3 := Lib.hid (L2.out.ab hb)
  have M3 := Lib.hid (M2.out.ab hb)
  have IR3 := Lib.hid (IR2.out.ab hb)
  have IK3 := Lib.hid (IK2.out.ab hb)
  have R3 := Lib.hid (R2.out.ab hb)
  have B3 := Lib.hid (below_tr B2.out hb B2.out.size)
  clear hb L2 M2 IR2 IK2 R2 B2 x0 x1 x2
  go_wp2_with ((with_reducible refine wpList_store3 (o := ⟨none, .store _ (.tmp 11) (.tmp 38), _, _, _, _⟩) rfl (.tmp 11) (.tmp 38) ?_ w3.heap.size ?_ #[.int .u16 0, .int .u64 0, .slice none 0 0] ?_ ?_ ?_ (cs := #[.int .u16 0, .int .u64 0, .slice none 0 0]) ?_ ?_ ?_)
               · rfl
               · rfl
               · rfl
               · rfl
               · (simp [Value.oneCell'])
               · exact heap_alloc_new w3 _
               · rfl
               intro w6 hw6
               have hb6 : Below w3.heap.size w3 w6 := by rw [hw6]; exact Below.row ((Below.refl _ _).alloc (Nat.le_refl _) _) (Nat.le_refl _) _
               have K6 : Hid (HdB w6 w3.heap.size #[.int .u16 0, .int .u64 0, .slice none 0 0]) := Lib.hid (by rw [hw6]; exact HdB.row (w := w3.alloc (.cells #[.int .u16 0, .int .u64 0, .slice none 0 0] 67)) (heap_alloc_new w3 _) _)
               have L6 := Lib.hid (L3.out.ab hb6)
               have M6 := Lib.hid (M3.out.ab hb6)
               have IR6 := Lib.hid (IR3.out.ab hb6)
               have IK6 := Lib.hid (IK3.out.ab hb6)
               have R6 := Lib.hid (R3.out.ab hb6)
               have V6 := Lib.hid (V3.out.ab hb6)
               have B6 := Lib.hid (below_tr B3.out hb6 B3.out.size)
               clear hw6)
  clear L3 M3 IR3 IK3 R3 V3 B3
  generalize w3.heap.size = g3 at *
  refine (kept_any _ _ _ _ _ _ w6 L6.out IR6.out RN.out).mono ?_
  rintro e w7 ⟨rfl, hb⟩
  have K7 := Lib.hid (K6.out.ab hb)
  have L7 := Lib.hid (L6.out.ab hb)
  have M7 := Lib.hid (M6.out.ab hb)
  have IR7 := Lib.hid (IR6.out.ab hb)
  have IK7 := Lib.hid (IK6.out.ab hb)
  have R7 := Lib.hid (R6.out.ab hb)
  have V7 := Lib.hid (V6.out.ab hb)
  have B7 := Lib.hid (below_tr B6.out hb B6.out.size)
  clear hb K6 L6 M6 IR6 IK6 R6 V6 B6
  go_wp2_with fail
  refine (kept_any _ _ _ _ _ _ w7 M7.out IK7.out KN.out).mono ?_
  rintro e w8 ⟨rfl, hb⟩
  have K8 := Lib.hid (K7.out.ab hb)
  have L8 := Lib.hid (L7.out.ab hb)
  have IR8 := Lib.hid (IR7.out.ab hb)
  have IK8 := Lib.hid (IK7.out.ab hb)
  have R8 := Lib.hid (R7.out.ab hb)
  have V8 := Lib.hid (V7.out.ab hb)
  have B8 := Lib.hid (below_tr B7.out hb B7.out.size)
  clear hb K7 L7 M7 IR7 IK7 R7 V7 B7
  obtain ⟨p0, p1, p2⟩ := K8.out.cells
  obtain ⟨x0, x1, x2⟩ := R8.out.cells
  go_wp2_with fail
  have hsame : Calls Try.prog 56 #[.agg #[.int .u16 0, .int .u64 0, .slice none 0 0], .agg #[.int .u16 0, .int .u64 0, .slice none 0 0]] w8 fun e w' => e = .returned (.bool true) ∧ Below w8.heap.size w8 w' := rsame_any none none 0 0 0 0 0 0 0 0 [] [] w8 (isB_nil _) (isB_nil _)
  refine hsame.mono ?_
  rintro e w9 ⟨rfl, hb⟩
  have B9 := Lib.hid (below_tr B8.out hb B8.out.size)
  clear hb hsame
  go_wp2_with fail
  refine (known22_any _).mono ?_
  rintro e w10 ⟨rfl, b9⟩
  have B9 := Lib.hid (below_tr B9.out b9 B9.out.size)
  clear b9
  go_wp2_with fail
  go_ret
  exact ⟨rfl, B9.out⟩
set_option maxRecDepth 100000 in
set_option maxHeartbeats 8000000 in
theorem wraps_ok (A kA sA : Option Addr) ( c kc sn sc ten gn cm : Nat) (root key s : List Nat) (w : World) (ir : IsB w A 32 c root) (ik : IsB w kA 16 kc key) (is : IsB w sA sn sc s) (ht : ten < 4294967296) (hg : gn < 65536) (hc : cm < 18446744073709551616) :
    Calls Try.prog 17 #[.slice A 32 c, .slice kA 16 kc, .int .u32 (ten : Int), .agg #[.int .u16 (gn : Int), .int .u64 (cm : Int), .slice sA sn sc]] w fun e w' => e = .returned (.bool true) ∧ Below w.heap.size w w' := by
  have IR : Hid (IsB (w.alloc (.cells #[.int .u16 (gn : Int), .int .u64 (cm : Int), .slice sA sn sc] 67)) A 32 c root) := Lib.hid (ir.alloc _)
  have IK : Hid (IsB (w.alloc (.cells #[.int .u16 (gn : Int), .int .u64 (cm : Int), .slice sA sn sc] 67)) kA 16 kc key) := Lib.hid (ik.alloc _)
  have R0 : Hid (HdB (w.alloc (.cells #[.int .u16 (gn : Int), .int .u64 (cm : Int), .slice sA sn sc] 67)) w.heap.size #[.int .u16 (gn : Int), .int .u64 (cm : Int), .slice sA sn sc]) := Lib.hid (boxH w _)
  have B0 : Hid (Below w.heap.size w (w.alloc (.cells #[.int .u16 (gn : Int), .int .u64 (cm : Int), .slice sA sn sc] 67))) := Lib.hid (boxB w _)
  have hrw := fun W h1 h2 => rwrap_any A kA c kc ten gn cm (.slice sA sn sc) root key W h1 h2 ht hg hc
  have hwr := fun g1 d1 g2 d2 W h1 h2 => wrap_ok (some ⟨g1, 0, none⟩) (some ⟨g2, 0, none⟩) d1 d2 ten gn cm root key W h1 h2 ht hg hc
  have hun := fun g1 d1 A3 c3 W h1 h2 => unwrap_any (some ⟨g1, 0, none⟩) A3 32 d1 32 c3 ten gn cm root (wrapA root ten gn cm key) W h1 h2 ht hg hc
  rw [if_pos ⟨rfl, rfl⟩, unwrap_wrap ten gn cm ik.len] at hun
  have hlen := wrap_len root ten gn cm key
  rw [ik.len] at hlen
  generalize wrapA root ten gn cm key = S at *
  have HW := Lib.hid hwr
  have RW := Lib.hid hrw
  have UN := Lib.hid hun
  have SL : Hid (S.length = 32) := Lib.hid hlen
  have KL := Lib.hid ik.len
  have RN : Hid (32 ≤ 1000000) := Lib.hid (by decide)
  have KN : Hid (16 ≤ 1000000) := Lib.hid (by decide)
  clear hwr hrw hun hlen
  clear ir ik is ht hg hc
  obtain ⟨x0, x1, x2⟩ := R0.out.cells
  go_enter Try.func17, Try.ntmps17
  go_wp2_with fail
  refine (lent_any A 32 c root _ IR.out RN.out).mono ?_
  rintro e w1 ⟨g1, d1, rfl, hl, hb⟩
  have L1 := Lib.hid hl
  have IR1 := Lib.hid (IR.out.ab hb)
  have IK1 := Lib.hid (IK.out.ab hb)
  have R1 := Lib.hid (R0.out.ab hb)
  have B1 := Lib.hid (below_tr B0.out hb B0.out.size)
  clear hl hb IR IK R0 B0 x0 x1 x2
  obtain ⟨x0, x1, x2⟩ := R1.out.cells
  go_wp2_with fail
  refine (lent_any kA 16 kc key _ IK1.out KN.out).mono ?_
  rintro e w2 ⟨g2, d2, rfl, hl, hb⟩
  have M2 := Lib.hid hl
  have L2 := Lib.hid (L1.out.ab hb)
  have IR2 := Lib.hid (IR1.out.ab hb)
  have IK2 := Lib.hid (IK1.out.ab hb)
  have R2 := Lib.hid (R1.out.ab hb)
  have B2 := Lib.hid (below_tr B1.out hb B1.out.size)
  clear hl hb L1 IR1 IK1 R1 B1 x0 x1 x2
  obtain ⟨x0, x1, x2⟩ := R2.out.cells
  go_wp2_with fail
  refine (HW.out g1 d1 g2 d2 w2 L2.out.isB M2.out.isB).mono ?_
  rintro e w3 ⟨v, rfl, hv, hb⟩
  obtain ⟨A3, c3, rfl, -⟩ := hv.shape
  rw [SL.out] at hv ⊢
  have V3 := Lib.hid (hv.isB SL.out)
  clear hv
  have L3 := Lib.hid (L2.out.ab hb)
  have M3 := Lib.hid (M2.out.ab hb)
  have IR3 := Lib.hid (IR2.out.ab hb)
  have IK3 := Lib.hid (IK2.out.ab hb)
  have R3 := Lib.hid (R2.out.ab hb)
  have B3 := Lib.hid (below_tr B2.out hb B2.out.size)
  clear hb L2 M2 IR2 IK2 R2 B2 x0 x1 x2
  go_wp2_with ((with_reducible refine wpList_store3 (o := ⟨none, .store _ (.tmp 11) (.tmp 38), _, _, _, _⟩) rfl (.tmp 11) (.tmp 38) ?_ w3.heap.size ?_ #[.int .u16 (gn : Int), .int .u64 (cm : Int), .slice A3 32 c3] ?_ ?_ ?_ (cs := #[.int .u16 0, .int .u64 0, .slice none 0 0]) ?_ ?_ ?_)
               · rfl
               · rfl
               · rfl
               · rfl
               · (simp [Value.oneCell'])
               · exact heap_alloc_new w3 _
               · rfl
               intro w6 hw6
               have hb6 : Below w3.heap.size w3 w6 := by rw [hw6]; exact Below.row ((Below.refl _ _).alloc (Nat.le_refl _) _) (Nat.le_refl _) _
               have K6 : Hid (HdB w6 w3.heap.size #[.int .u16 (gn : Int), .int .u64 (cm : Int), .slice A3 32 c3]) := Lib.hid (by rw [hw6]; exact HdB.row (w := w3.alloc (.cells #[.int .u16 0, .int .u64 0, .slice none 0 0] 67)) (heap_alloc_new w3 _) _)
               have L6 := Lib.hid (L3.out.ab hb6)
               have M6 := Lib.hid (M3.out.ab hb6)
               have IR6 := Lib.hid (IR3.out.ab hb6)
               have IK6 := Lib.hid (IK3.out.ab hb6)
               have R6 := Lib.hid (R3.out.ab hb6)
               have V6 := Lib.hid (V3.out.ab hb6)
               have B6 := Lib.hid (below_tr B3.out hb6 B3.out.size)
               clear hw6)
  clear L3 M3 IR3 IK3 R3 V3 B3
  generalize w3.heap.size = g3 at *
  refine (kept_any _ _ _ _ _ _ w6 L6.out IR6.out RN.out).mono ?_
  rintro e w7 ⟨rfl, hb⟩
  have K7 := Lib.hid (K6.out.ab hb)
  have L7 := Lib.hid (L6.out.ab hb)
  have M7 := Lib.hid (M6.out.ab hb)
  have IR7 := Lib.hid (IR6.out.ab hb)
  have IK7 := Lib.hid (IK6.out.ab hb)
  have R7 := Lib.hid (R6.out.ab hb)
  have V7 := Lib.hid (V6.out.ab hb)
  have B7 := Lib.hid (below_tr B6.out hb B6.out.size)
  clear hb K6 L6 M6 IR6 IK6 R6 V6 B6
  go_wp2_with fail
  refine (kept_any _ _ _ _ _ _ w7 M7.out IK7.out KN.out).mono ?_
  rintro e w8 ⟨rfl, hb⟩
  have K8 := Lib.hid (K7.out.ab hb)
  have L8 := Lib.hid (L7.out.ab hb)
  have IR8 := Lib.hid (IR7.out.ab hb)
  have IK8 := Lib.hid (IK7.out.ab hb)
  have R8 := Lib.hid (R7.out.ab hb)
  have V8 := Lib.hid (V7.out.ab hb)
  have B8 := Lib.hid (below_tr B7.out hb B7.out.size)
  clear hb K7 L7 M7 IR7 IK7 R7 V7 B7
  obtain ⟨p0, p1, p2⟩ := K8.out.cells
  obtain ⟨x0, x1, x2⟩ := R8.out.cells
  go_wp2_with fail
  refine (UN.out g1 d1 A3 c3 w8 L8.out.isB V8.out).mono ?_
  rintro e w9 ⟨v, rfl, hv, hb⟩
  obtain ⟨A4, c4, rfl, -⟩ := hv.shape
  rw [KL.out] at hv ⊢
  have U9 := Lib.hid (hv.isB KL.out)
  have K9 := Lib.hid (K8.out.ab hb)
  have L9 := Lib.hid (L8.out.ab hb)
  have IR9 := Lib.hid (IR8.out.ab hb)
  have IK9 := Lib.hid (IK8.out.ab hb)
  have R9 := Lib.hid (R8.out.ab hb)
  have V9 := Lib.hid (V8.out.ab hb)
  have B9 := Lib.hid (below_tr B8.out hb B8.out.size)
  clear hv hb K8 L8 IR8 IK8 R8 V8 B8 p0 p1 p2 x0 x1 x2 HW UN
  go_wp2_with fail
  refine wp_wide3 [⟨75, IsR (.pointer (some ⟨w.heap.size, 0, none⟩)), [], false⟩, ⟨76, IsR (.int .u16 (gn : Int)), [0], false⟩, ⟨77, IsR (.pointer (some ⟨w.heap.size, 1, none⟩)), [], false⟩, ⟨78, IsR (.int .u64 (cm : Int)), [2], false⟩, ⟨79, IsR (.slice A 32 c), [], false⟩, ⟨80, IsR (.int .u32 (ten : Int)), [], false⟩, ⟨81, IsR (.agg #[.int .u16 (gn : Int), .int .u64 (cm : Int), .slice sA sn sc]), [], false⟩, ⟨82, IsR (.slice kA 16 kc), [], false⟩, ⟨83, OwR w9.heap.size S, [4, 5, 6, 7], false⟩, ⟨84, AggO w9.heap.size gn cm S, [1, 3, 8], false⟩, ⟨15, NewH w9, [], false⟩] (by kernel_rfl) (by kernel_rfl) rfl rfl rfl ⟨?_, ?_, ?_, ?_, ?_, ?_, ?_, ?_, ?_, ?_, ?_, trivial⟩ ?_
  · refine ⟨rfl, IsR.mono _, fun a W hA hb hd => takes_plain rfl (yields_value _ ?_ rfl)⟩
    have h7 : a.tmps[7]?.getD undef = .pointer (some ⟨w.heap.size, 0, none⟩) := (eval_get a 7).trans ((hA.eval (by simp)).trans rfl)
    go_simp
  · refine ⟨rfl, IsR.mono _, fun a W hA hb hd => takes_plain rfl (yields_value _ ?_ rfl)⟩
    have h75 : a.tmps[75]?.getD undef = .pointer (some ⟨w.heap.size, 0, none⟩) := (eval_get a 75).trans (hd 0 (by simp) _ rfl)
    obtain ⟨x0, x1, x2⟩ := (R9.out.ab hb).cells
    go_simp
  · refine ⟨rfl, IsR.mono _, fun a W hA hb hd => takes_plain rfl (yields_value _ ?_ rfl)⟩
    have h7 : a.tmps[7]?.getD undef = .pointer (some ⟨w.heap.size, 0, none⟩) := (eval_get a 7).trans ((hA.eval (by simp)).trans rfl)
    go_simp
  · refine ⟨rfl, IsR.mono _, fun a W hA hb hd => takes_plain rfl (yields_value _ ?_ rfl)⟩
    have h77 : a.tmps[77]?.getD undef = .pointer (some ⟨w.heap.size, 1, none⟩) := (eval_get a 77).trans (hd 2 (by simp) _ rfl)
    obtain ⟨x0, x1, x2⟩ := (R9.out.ab hb).cells
    go_simp
  · refine ⟨rfl, IsR.mono _, fun a W hA hb hd => takes_plain rfl (yields_value _ ?_ rfl)⟩
    have h0 : a.tmps[0]?.getD undef = .slice A 32 c := (eval_get a 0).trans ((hA.eval (by simp)).trans rfl)
    go_simp
  · refine ⟨rfl, IsR.mono _, fun a W hA hb hd => takes_plain rfl (yields_value _ ?_ rfl)⟩
    have h2 : a.tmps[2]?.getD undef = .int .u32 (ten : Int) := (eval_get a 2).trans ((hA.eval (by simp)).trans rfl)
    go_simp
  · refine ⟨rfl, IsR.mono _, fun a W hA hb hd => takes_plain rfl (yields_value _ ?_ rfl)⟩
    have h7 : a.tmps[7]?.getD undef = .pointer (some ⟨w.heap.size, 0, none⟩) := (eval_get a 7).trans ((hA.eval (by simp)).trans rfl)
    obtain ⟨x0, x1, x2⟩ := (R9.out.ab hb).cells
    go_simp
  · refine ⟨rfl, IsR.mono _, fun a W hA hb hd => takes_plain rfl (yields_value _ ?_ rfl)⟩
    have h1 : a.tmps[1]?.getD undef = .slice kA 16 kc := (eval_get a 1).trans ((hA.eval (by simp)).trans rfl)
    go_simp
  · refine ⟨rfl, OwR.mono _ _, fun a W hA hb hd => takes_plain rfl ?_⟩
    have h79 : a.tmps[79]?.getD undef = .slice A 32 c := (eval_get a 79).trans (hd 4 (by simp) _ rfl)
    have h80 : a.tmps[80]?.getD undef = .int .u32 (ten : Int) := (eval_get a 80).trans (hd 5 (by simp) _ rfl)
    have h81 : a.tmps[81]?.getD undef = .agg #[.int .u16 (gn : Int), .int .u64 (cm : Int), .slice sA sn sc] := (eval_get a 81).trans (hd 6 (by simp) _ rfl)
    have h82 : a.tmps[82]?.getD undef = .slice kA 16 kc := (eval_get a 82).trans (hd 7 (by simp) _ rfl)
    refine yields_call 58 #[.slice A 32 c, .int .u32 (ten : Int), .agg #[.int .u16 (gn : Int), .int .u64 (cm : Int), .slice sA sn sc], .slice kA 16 kc] (by go_simp) ((RW.out W (IR9.out.ab hb) (IK9.out.ab hb)).mono ?_)
    rintro e W1 ⟨v1, rfl, hv1, hb1⟩
    exact ⟨_, rfl, hv1.lower hb.size, hb1⟩
  · refine ⟨rfl, AggO.mono _ _ _ _, fun a W hA hb hd => takes_plain rfl ?_⟩
    have ho : OwB W w9.heap.size (a.eval (.tmp 83)) S := hd 8 (by simp) _ rfl
    obtain ⟨Aa, ca, ea, -, -⟩ := ho.shape
    rw [ea] at ho
    have h83 : a.tmps[83]?.getD undef = .slice Aa S.length ca := (eval_get a 83).trans ea
    have h76 : a.tmps[76]?.getD undef = .int .u16 (gn : Int) := (eval_get a 76).trans (hd 1 (by simp) _ rfl)
    have h78 : a.tmps[78]?.getD undef = .int .u64 (cm : Int) := (eval_get a 78).trans (hd 3 (by simp) _ rfl)
    refine yields_value (.agg #[.int .u16 (gn : Int), .int .u64 (cm : Int), .slice Aa S.length ca]) ?_ ⟨_, rfl, ho⟩
    go_simp
  · refine ⟨rfl, NewH.mono _, fun a W hA hb hd => takes_plain rfl ?_⟩
    refine yields_newH ?_ hb
    go_simp
  intro vs w10 hR hF hb
  obtain ⟨v84, e84, ho⟩ : AggO w9.heap.size gn cm S (vs 84) w10 := hR 9 _ rfl
  obtain ⟨g7, e15, k7, l7⟩ : NewH w9 (vs 15) w10 := hR 10 _ rfl
  simp only [List.map_cons, List.map_nil, List.foldl_cons, List.foldl_nil, List.length_cons, List.length_nil, List.drop_succ_cons, List.drop_zero, Act.put, List.setIfInBounds_toArray, List.set_cons_zero, List.set_cons_succ, e84, e15]
  generalize vs 75 = q75 at *
  generalize vs 76 = q76 at *
  generalize vs 77 = q77 at *
  generalize vs 78 = q78 at *
  generalize vs 79 = q79 at *
  generalize vs 80 = q80 at *
  generalize vs 81 = q81 at *
  generalize vs 82 = q82 at *
  generalize vs 83 = q83 at *
  obtain ⟨A5, c5, rfl, -⟩ := ho.shape
  rw [SL.out] at ho ⊢
  have NE : Hid (ApartB (.slice A5 32 c5) g7) := Lib.hid (own_ne ho k7)
  have K7 := Lib.hid k7
  have HO := Lib.hid ho
  have B7 : Hid (∀ cs, Below w9.heap.size w9 (w10.setRow g7 cs)) := Lib.hid fun cs => Below.row hb l7 cs
  clear hR hF hb e84 e15 k7 l7 ho
  refine wpList_store3 rfl (.tmp 15) (.tmp 84) rfl g7 rfl #[.int .u16 (gn : Int), .int .u64 (cm : Int), .slice A5 32 c5] rfl rfl (by simp [Value.oneCell']) K7.out rfl ?_
  intro w11 hw6
  have hb6 : Below w9.heap.size w9 w11 := by rw [hw6]; exact B7.out _
  have Q11 : Hid (HdB w11 g7 #[.int .u16 (gn : Int), .int .u64 (cm : Int), .slice A5 32 c5]) := Lib.hid (by rw [hw6]; exact K7.out.row _)
  have O11 : Hid (IsB w11 A5 32 c5 S) := Lib.hid (by rw [hw6]; exact (HO.out.rowFar NE.out _).isB SL.out)
  have U11 := Lib.hid (U9.out.ab hb6)
  have K11 := Lib.hid (K9.out.ab hb6)
  have L11 := Lib.hid (L9.out.ab hb6)
  have IR11 := Lib.hid (IR9.out.ab hb6)
  have IK11 := Lib.hid (IK9.out.ab hb6)
  have V11 := Lib.hid (V9.out.ab hb6)
  have B11 := Lib.hid (below_tr B9.out hb6 B9.out.size)
  clear hw6 hb6 K7 HO NE B7 U9 K9 L9 IR9 IK9 R9 V9 B9
  obtain ⟨p0, p1, p2⟩ := K11.out.cells
  obtain ⟨q0, q1, q2⟩ := Q11.out.cells
  have hsame := rsame_any A3 A5 32 c3 32 c5 gn cm gn cm S S w11 V11.out O11.out
  simp only [decide_true, Bool.and_true] at hsame
  have HS := Lib.hid hsame
  clear hsame V11 O11
  go_wp2_with fail
  refine HS.out.mono ?_
  rintro e w12 ⟨rfl, hb⟩
  have hst1 := run_str (U11.out.ab hb) 22 5 9 Try.underlying22 Try.underlying5 Try.underlying9
  have hst2 := run_str (IK11.out.ab hb) 22 5 9 Try.underlying22 Try.underlying5 Try.underlying9
  have L12 := Lib.hid (L11.out.ab hb)
  have IR12 := Lib.hid (IR11.out.ab hb)
  have B12 := Lib.hid (below_tr B11.out hb B11.out.size)
  clear hb U11 K11 L11 IR11 IK11 B11 Q11 HS p0 p1 p2 q0 q1 q2
  go_wp2_with fail
  refine (kept_any _ _ _ _ _ _ w12 L12.out IR12.out RN.out).mono ?_
  rintro e w13 ⟨rfl, hb⟩
  have B13 := Lib.hid (below_tr B12.out hb B12.out.size)
  clear hb L12 IR12 B12 hst1 hst2
  go_wp2_with fail
  refine (known22_any _).mono ?_
  rintro e w14 ⟨rfl, b9⟩
  have B14 := Lib.hid (below_tr B13.out b9 B13.out.size)
  clear b9
  go_wp2_with fail
  go_ret
  exact ⟨rfl, B14.out⟩
set_option maxRecDepth 100000 in
set_option maxHeartbeats 8000000 in
theorem wraps_any (A kA sA : Option Addr) (n kn c kc sn sc ten gn cm : Nat) (root key s : List Nat) (w : World) (ir : IsB w A n c root) (ik : IsB w kA kn kc key) (is : IsB w sA sn sc s) (ht : ten < 4294967296) (hg : gn < 65536) (hc : cm < 18446744073709551616) :
    Calls Try.prog 17 #[.slice A n c, .slice kA kn kc, .int .u32 (ten : Int), .agg #[.int .u16 (gn : Int), .int .u64 (cm : Int), .slice sA sn sc]] w fun e w' => e = .returned (.bool true) ∧ Below w.heap.size w w' := by
  by_cases h : 100000 < n ∨ 100000 < kn
  · refine two_ways (decide ((100000 : Int) < (n : Int))) (decide ((100000 : Int) < (kn : Int))) _ (fun h1 => ?_) (fun h1 h2 => ?_) (by simp only [decide_eq_true_eq]; omega)
    all_goals
      have B0 : Hid (Below w.heap.size w (w.alloc (.cells #[.int .u16 (gn : Int), .int .u64 (cm : Int), .slice sA sn sc] 67))) := Lib.hid (boxB w _)
      clear h ir ik is hg ht hc
      go_enter Try.func17, Try.ntmps17
      go_wp2_with fail
      refine (known22_any _).mono ?_
      rintro e w9 ⟨rfl, b9⟩
      have B9 := Lib.hid (below_tr B0.out b9 B0.out.size)
      clear b9
      go_wp2_with fail
      go_ret
      exact ⟨rfl, B9.out⟩
  · by_cases h1 : n = 32
    · by_cases h2 : kn = 16
      · subst h1 h2
        exact wraps_ok A kA sA c kc sn sc ten gn cm root key s w ir ik is ht hg hc
      · exact wraps_bad2 A kA sA n kn c kc sn sc ten gn cm root key s w ir ik is ht hg hc (by omega) (by omega) ⟨h1, h2⟩
    · exact wraps_bad1 A kA sA n kn c kc sn sc ten gn cm root key s w ir ik is ht hg hc (by omega) (by omega) h1
set_option maxRecDepth 100000 in
theorem wraps_walk (A : Option Addr) (n c : Nat) (zr : List Int) (kA : Option Addr) (kn kc : Nat) (zk : List Int) (zt : Int) (v : Value) (w : World) (hr : IsRow .u8 w A n c zr) (sr : c * 1 ≤ 140737488351232) (hkk : IsRow .u8 w kA kn kc zk) (sk : kc * 1 ≤ 140737488351232) (hz : (Lit.int .u32 zt).wf = true) (hk : ∃ base, Value.okWide Try.prog w .any base 67 v) {H : Type} {enc : TypeId × Value → H} {d : DataW H} {p : List MemPlace} (h : DataW.Trod enc Try.prog w 0 (fun _ => true) true 67 v d p) (hl : ∀ x ∈ p, x.block < w.heap.size) :
    Calls Try.prog 17 #[.slice A n c, .slice kA kn kc, .int .u32 zt, v] w fun e w' => e = .returned (.bool true) ∧ Below w.heap.size w w' := by
  obtain ⟨base, hk⟩ := hk
  obtain ⟨gn, cm, sA, sn, sc, s, rfl, is, hg, hc⟩ := open_held hk h hl
  obtain ⟨root, rfl, br⟩ := byt_of_row hr
  obtain ⟨key, rfl, bk⟩ := byt_of_row hkk
  obtain ⟨ten, rfl, ht⟩ := nat_wf32 hz
  exact wraps_any A kA sA n kn c kc sn sc ten gn cm root key s w ⟨hr, br⟩ ⟨hkk, bk⟩ is ht hg hc
end Go.Proofs.Ytpofndciepoooaa
