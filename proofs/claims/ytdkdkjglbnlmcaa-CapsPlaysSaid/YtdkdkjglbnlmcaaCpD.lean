/-
  CAPS AND THE DOCUMENT's: one call of both: walk.
-/
import Derived.Test.YtdkdkjglbnlmcaaCrD
namespace Go.Proofs.Ytdkdkjglbnlmcaa
open Go.RowKit
set_option linter.unusedVariables false

section
variable {w w' : World} {B B' c g : Nat} {mo : Option Nat} {v : Value} {A A2 : HL} {F : Nat → Prop}
theorem CpA.fr (h : CpA w B c mo A) (hf : Fr w w' F) (hc : ¬ F c) (hm : ∀ m, mo = some m → ¬ F m) : CpA w' B c mo A := by
  obtain ⟨⟨l, h1, h2, h3⟩, h4, h5⟩ := h
  exact ⟨⟨l, ⟨h1.box.fr hf hc, Nat.le_trans h1.low hf.size, fun m hmm => ⟨(h1.map m hmm).1, (h1.map m hmm).2.same (hf.block m (h1.map m hmm).2.lt (hm m hmm))⟩, h1.nil, h1.le⟩, h2, h3⟩, h4, h5⟩
theorem CpA.box (h : CpA w B c mo A) : ∃ n : Int, CbB w c 52 #[.map mo, .int .u64 n] := by
  obtain ⟨⟨l, h1, _⟩, _⟩ := h
  exact ⟨_, h1.box⟩
theorem CpA.isMap (h : CpA w B c mo A) {m : Nat} (hm : mo = some m) : B ≤ m ∧ ∃ es ck, w.heap[m]? = some (.map es ck) := by
  obtain ⟨⟨l, h1, _⟩, _⟩ := h
  obtain ⟨h2, es, ck, h3, _⟩ := h1.map m hm
  exact ⟨h2, es, ck, h3⟩
theorem CpA.low (h : CpA w B c mo A) : B ≤ w.heap.size := by
  obtain ⟨⟨l, h1, _⟩, _⟩ := h
  exact h1.low
theorem box_ne {T T' : TypeId} {cs cs' : Array Value} {a b : Nat} (h : CbB w a T cs) (k : CbB w b T' cs') (hT : T ≠ T') : a ≠ b := fun e => by
  subst e
  unfold CbB at h k
  rw [h] at k
  injection k with k
  injection k with _ k
  exact hT k
theorem map_box_ne {T : TypeId} {cs : Array Value} {a b : Nat} (h : ∃ es ck, w.heap[a]? = some (.map es ck)) (k : CbB w b T cs) : a ≠ b := fun e => by
  subst e
  obtain ⟨es, ck, h⟩ := h
  unfold CbB at k
  rw [h] at k
  cases k
theorem map_row_ne {n s a : Nat} {e : TypeId} {xs : List Value} (h : ∃ es ck, w.heap[a]? = some (.map es ck)) (k : w.ownsRow B e s v n xs) : v.ownBlock ≠ some a := fun e1 => by
  obtain ⟨es, ck, h⟩ := h
  rcases k.2 with ⟨rfl, _⟩ | ⟨gb, cap, cur, rfl, _, hh, _⟩
  · cases e1
  · have : gb = a := by injection e1
    subst this
    rw [h] at hh
    cases hh
/-- the document's call leaves the program's caps alone, and the other way round -/
theorem CpA.frR (h : CpA w B c mo A) (hr : RcB w B' g v A2) (hf : Fr w w' (fun k => k = g ∨ v.ownBlock = some k)) : CpA w' B c mo A := by
  obtain ⟨n, hb⟩ := h.box
  refine h.fr hf ?_ fun m hm => ?_
  · rintro (e | e)
    · exact box_ne hb hr.box (by decide) e
    · exact row_ne hr.own hb (by decide) e
  · rintro (e | e)
    · exact map_box_ne (h.isMap hm).2 hr.box e
    · exact map_row_ne (h.isMap hm).2 hr.own e
theorem RcB.frC (h : RcB w B g v A) (hc : CpA w B' c mo A2) (hf : Fr w w' (capF c mo)) : RcB w' B g v A := by
  obtain ⟨n, hb⟩ := hc.box
  refine h.fr hf ?_ fun k hk => ?_
  · rintro (e | e)
    · exact box_ne h.box hb (by decide) e
    · exact map_box_ne (hc.isMap e).2 h.box rfl
  · rintro (e | e)
    · subst e
      exact row_ne h.own hb (by decide) hk
    · exact map_row_ne (hc.isMap e).2 h.own hk
theorem CbB.frC {b : Nat} {T : TypeId} {cs : Array Value} (h : CbB w b T cs) (hT : T ≠ 52) (hc : CpA w B' c mo A2) (hf : Fr w w' (capF c mo)) : CbB w' b T cs := by
  obtain ⟨n, hb⟩ := hc.box
  refine h.fr hf ?_
  rintro (e | e)
  · exact box_ne h hb hT e
  · exact map_box_ne (hc.isMap e).2 h rfl
theorem CbB.frR {b : Nat} {T : TypeId} {cs : Array Value} (h : CbB w b T cs) (hT : T ≠ 47) (hT2 : T ≠ 66) (hr : RcB w B' g v A2) (hf : Fr w w' (fun k => k = g ∨ v.ownBlock = some k)) : CbB w' b T cs := by
  refine h.fr hf ?_
  rintro (e | e)
  · exact box_ne h hr.box hT e
  · exact row_ne hr.own h hT2 e
theorem belowC (hB : B ≤ c) (hc : CpA w B c mo A) (hf : Fr w w' (capF c mo)) : Below B w w' := Fr.below hf (fun k hk => by
  rcases hk with rfl | hk
  · exact hB
  · exact (hc.isMap hk).1) (Below.refl _ _) hc.low
theorem belowR (hB : B ≤ g) (hr : RcB w B g v A) (hf : Fr w w' (fun k => k = g ∨ v.ownBlock = some k)) : Below B w w' := Fr.below hf (fun k hk => by
  rcases hk with rfl | hk
  · exact hB
  · exact own_ge9 hr.own k hk) (Below.refl _ _) hr.low
end
/-- behind a call of both -/
def DoR (B c g : Nat) (w : World) (A' : HL) (e : Ending) (w' : World) : Prop := e = .returned (.bool true) ∧ (∃ mo', CpA w' B c mo' A') ∧ (∃ v', RcB w' B g v' A') ∧ Below B w w'
def stepH (A : HL) (k : Int) (h v r : Nat) : HL := if k = 0 then (putH A 15 0).2 else if k = 1 then (giveH A h r).2 else if k = 2 then (revokeH A h v).2 else if k = 6 then clearH A else A
set_option maxRecDepth 100000 in
set_option maxHeartbeats 4000000 in
theorem do0 {B c g h vv r : Nat} {mo : Option Nat} {v : Value} {A : HL} {w : World} (hc : CpA w B c mo A) (hr : RcB w B g v A) (hB : B ≤ c) (hG : B ≤ g) (hm : A.length < 800) (hk : u64Ok h) (hv : u64Ok vv) :
    Calls Try.prog 17 #[.pointer (some ⟨c, 0, none⟩), .pointer (some ⟨g, 0, none⟩), .agg #[.int .i64 0, .int .u64 (h : Int), .int .u64 (vv : Int), .int .u8 (r : Int)]] w (DoR B c g w (putH A 15 0).2) := by
  have ha : Below w.heap.size w (w.alloc (.cells #[.int .i64 0, .int .u64 (h : Int), .int .u64 (vv : Int), .int .u8 (r : Int)] 37)) := (Below.refl _ _).alloc (Nat.le_refl _) _
  have hbo : CbB (w.alloc (.cells #[.int .i64 0, .int .u64 (h : Int), .int .u64 (vv : Int), .int .u8 (r : Int)] 37)) w.heap.size 37 #[.int .i64 0, .int .u64 (h : Int), .int .u64 (vv : Int), .int .u8 (r : Int)] := CbB.new _ _ _
  have HB := Lib.hid hB
  have HG := Lib.hid hG
  have HL := Lib.hid hc.low
  have C1 := Lib.hid (hc.ab ha)
  have R1 := Lib.hid (hr.ab ha)
  have B1 : Hid (Below B w (w.alloc (.cells #[.int .i64 0, .int .u64 (h : Int), .int .u64 (vv : Int), .int .u8 (r : Int)] 37))) := Lib.hid (ha.mono hc.low)
  have X1 := Lib.hid hbo
  have K1 := Lib.hid (attachA_any C1.out (by omega))
  have K2 := Lib.hid fun W v' (hW : RcB W B g v' A) => rattach_any hW (by omega)
  have h1 := X1.out.cell (k := 1) rfl
  have h3 := X1.out.cell (k := 3) rfl
  generalize putH A 15 0 = P at *
  obtain ⟨⟨p1, p2⟩, A'⟩ := P
  try simp only at K1 K2 ⊢
  clear hc hr hB hG hm hk hv ha hbo
  go_enter Try.func17, Try.ntmps17
  go_wp2_with fail
  refine K1.out.mono ?_
  rintro e w1 ⟨rfl, mo1, hc1, hf1, _⟩
  have R2 := Lib.hid (R1.out.frC C1.out hf1)
  have X2 := Lib.hid (X1.out.frC (by decide) C1.out hf1)
  have B2 := Lib.hid (B1.out.trans (belowC HB.out C1.out hf1))
  have C2 := Lib.hid hc1
  have y1 := X2.out.cell (k := 1) rfl
  have y3 := X2.out.cell (k := 3) rfl
  clear hc1 hf1 K1 h1 h3
  go_wp2_with fail
  refine (K2.out _ _ R2.out).mono ?_
  rintro e w2 ⟨rfl, v2, hr2, hf2⟩
  have C3 := Lib.hid (C2.out.frR R2.out hf2)
  have B3 := Lib.hid (B2.out.trans (belowR HG.out R2.out hf2))
  have R3 := Lib.hid hr2
  clear hr2 hf2 K2 y1 y3
  go_wp2_with fail
  go_ret
  exact ⟨rfl, ⟨_, C3.out⟩, ⟨_, R3.out⟩, B3.out⟩
set_option maxRecDepth 100000 in
set_option maxHeartbeats 4000000 in
theorem do1 {B c g h vv r : Nat} {mo : Option Nat} {v : Value} {A : HL} {w : World} (hc : CpA w B c mo A) (hr : RcB w B g v A) (hB : B ≤ c) (hG : B ≤ g) (hm : A.length < 800) (hk : u64Ok h) (hv : u64Ok vv) :
    Calls Try.prog 17 #[.pointer (some ⟨c, 0, none⟩), .pointer (some ⟨g, 0, none⟩), .agg #[.int .i64 1, .int .u64 (h : Int), .int .u64 (vv : Int), .int .u8 (r : Int)]] w (DoR B c g w (giveH A h r).2) := by
  have ha : Below w.heap.size w (w.alloc (.cells #[.int .i64 1, .int .u64 (h : Int), .int .u64 (vv : Int), .int .u8 (r : Int)] 37)) := (Below.refl _ _).alloc (Nat.le_refl _) _
  have hbo : CbB (w.alloc (.cells #[.int .i64 1, .int .u64 (h : Int), .int .u64 (vv : Int), .int .u8 (r : Int)] 37)) w.heap.size 37 #[.int .i64 1, .int .u64 (h : Int), .int .u64 (vv : Int), .int .u8 (r : Int)] := CbB.new _ _ _
  have HB := Lib.hid hB
  have HG := Lib.hid hG
  have HL := Lib.hid hc.low
  have C1 := Lib.hid (hc.ab ha)
  have R1 := Lib.hid (hr.ab ha)
  have B1 : Hid (Below B w (w.alloc (.cells #[.int .i64 1, .int .u64 (h : Int), .int .u64 (vv : Int), .int .u8 (r : Int)] 37))) := Lib.hid (ha.mono hc.low)
  have X1 := Lib.hid hbo
  have K1 := Lib.hid (giveA_any h r C1.out hk (by omega))
  have K2 := Lib.hid fun W v' (hW : RcB W B g v' A) => rgive_any (h := h) (r := r) hW (by omega)
  have h1 := X1.out.cell (k := 1) rfl
  have h3 := X1.out.cell (k := 3) rfl
  generalize giveH A h r = P at *
  obtain ⟨⟨p1, p2⟩, A'⟩ := P
  try simp only at K1 K2 ⊢
  clear hc hr hB hG hm hk hv ha hbo
  go_enter Try.func17, Try.ntmps17
  go_wp2_with fail
  refine K1.out.mono ?_
  rintro e w1 ⟨rfl, mo1, hc1, hf1, _⟩
  have R2 := Lib.hid (R1.out.frC C1.out hf1)
  have X2 := Lib.hid (X1.out.frC (by decide) C1.out hf1)
  have B2 := Lib.hid (B1.out.trans (belowC HB.out C1.out hf1))
  have C2 := Lib.hid hc1
  have y1 := X2.out.cell (k := 1) rfl
  have y3 := X2.out.cell (k := 3) rfl
  clear hc1 hf1 K1 h1 h3
  go_wp2_with fail
  refine (K2.out _ _ R2.out).mono ?_
  rintro e w2 ⟨rfl, v2, hr2, hf2⟩
  have C3 := Lib.hid (C2.out.frR R2.out hf2)
  have B3 := Lib.hid (B2.out.trans (belowR HG.out R2.out hf2))
  have R3 := Lib.hid hr2
  clear hr2 hf2 K2 y1 y3
  go_wp2_with fail
  go_ret
  exact ⟨rfl, ⟨_, C3.out⟩, ⟨_, R3.out⟩, B3.out⟩
set_option maxRecDepth 100000 in
set_option maxHeartbeats 4000000 in
theorem do3 {B c g h vv r : Nat} {mo : Option Nat} {v : Value} {A : HL} {w : World} (hc : CpA w B c mo A) (hr : RcB w B g v A) (hB : B ≤ c) (hG : B ≤ g) (hm : A.length < 800) (hk : u64Ok h) (hv : u64Ok vv) :
    Calls Try.prog 17 #[.pointer (some ⟨c, 0, none⟩), .pointer (some ⟨g, 0, none⟩), .agg #[.int .i64 3, .int .u64 (h : Int), .int .u64 (vv : Int), .int .u8 (r : Int)]] w (DoR B c g w A) := by
  have ha : Below w.heap.size w (w.alloc (.cells #[.int .i64 3, .int .u64 (h : Int), .int .u64 (vv : Int), .int .u8 (r : Int)] 37)) := (Below.refl _ _).alloc (Nat.le_refl _) _
  have hbo : CbB (w.alloc (.cells #[.int .i64 3, .int .u64 (h : Int), .int .u64 (vv : Int), .int .u8 (r : Int)] 37)) w.heap.size 37 #[.int .i64 3, .int .u64 (h : Int), .int .u64 (vv : Int), .int .u8 (r : Int)] := CbB.new _ _ _
  have HB := Lib.hid hB
  have HG := Lib.hid hG
  have HL := Lib.hid hc.low
  have C1 := Lib.hid (hc.ab ha)
  have R1 := Lib.hid (hr.ab ha)
  have B1 : Hid (Below B w (w.alloc (.cells #[.int .i64 3, .int .u64 (h : Int), .int .u64 (vv : Int), .int .u8 (r : Int)] 37))) := Lib.hid (ha.mono hc.low)
  have X1 := Lib.hid hbo
  have K1 := Lib.hid fun W (hW : Below (w.alloc (.cells #[.int .i64 3, .int .u64 (h : Int), .int .u64 (vv : Int), .int .u8 (r : Int)] 37)).heap.size (w.alloc (.cells #[.int .i64 3, .int .u64 (h : Int), .int .u64 (vv : Int), .int .u8 (r : Int)] 37)) W) => checkA_any h r (C1.out.ab hW) hk
  have K2 := Lib.hid fun W (hW : Below (w.alloc (.cells #[.int .i64 3, .int .u64 (h : Int), .int .u64 (vv : Int), .int .u8 (r : Int)] 37)).heap.size (w.alloc (.cells #[.int .i64 3, .int .u64 (h : Int), .int .u64 (vv : Int), .int .u8 (r : Int)] 37)) W) => rcheck_any (h := h) (need := r) (R1.out.ab hW) (by omega)
  have h0 := X1.out.cell (k := 0) rfl
  generalize checkH A h r = q at *
  clear hc hr hB hG hm hk hv ha hbo
  go_enter Try.func17, Try.ntmps17
  go_upto_region 13 with (fail)
  clear h0
  obtain ⟨w1, hw1⟩ : ∃ w1, w.alloc (.cells #[.int .i64 3, .int .u64 (h : Int), .int .u64 (vv : Int), .int .u8 (r : Int)] 37) = w1 := ⟨_, rfl⟩
  rw [hw1] at C1 R1 B1 X1 K1 K2 ⊢
  clear hw1
  refine wp_wide3 [⟨86, IsR (.pointer (some ⟨c, 0, none⟩)), [], false⟩, ⟨87, IsR (.pointer (some ⟨w.heap.size, 1, none⟩)), [], false⟩, ⟨88, IsR (.int .u64 (h : Int)), [1], false⟩, ⟨89, IsR (.pointer (some ⟨w.heap.size, 3, none⟩)), [], false⟩, ⟨90, IsR (.int .u8 (r : Int)), [3], false⟩, ⟨91, IsR (.int .i64 (q : Int)), [0, 2, 4], false⟩, ⟨92, IsR (.pointer (some ⟨g, 0, none⟩)), [], false⟩, ⟨93, IsR (.pointer (some ⟨w.heap.size, 1, none⟩)), [], false⟩, ⟨94, IsR (.int .u64 (h : Int)), [7], false⟩, ⟨95, IsR (.pointer (some ⟨w.heap.size, 3, none⟩)), [], false⟩, ⟨96, IsR (.int .u8 (r : Int)), [9], false⟩, ⟨97, IsR (.int .i64 (q : Int)), [6, 8, 10], false⟩] (by kernel_rfl) (by kernel_rfl) rfl rfl rfl ⟨?_, ?_, ?_, ?_, ?_, ?_, ?_, ?_, ?_, ?_, ?_, ?_, trivial⟩ ?_
  · refine ⟨rfl, IsR.mono _, fun a W hA hb hd => takes_plain rfl (yields_value _ ?_ rfl)⟩
    have h0 : a.tmps[0]?.getD undef = .pointer (some ⟨c, 0, none⟩) := (eval_get a 0).trans ((hA.eval (by simp)).trans rfl)
    go_simp
  · refine ⟨rfl, IsR.mono _, fun a W hA hb hd => takes_plain rfl (yields_value _ ?_ rfl)⟩
    have h5 : a.tmps[5]?.getD undef = .pointer (some ⟨w.heap.size, 0, none⟩) := (eval_get a 5).trans ((hA.eval (by simp)).trans rfl)
    go_simp
  · refine ⟨rfl, IsR.mono _, fun a W hA hb hd => takes_plain rfl (yields_value _ ?_ rfl)⟩
    have h87 : a.tmps[87]?.getD undef = .pointer (some ⟨w.heap.size, 1, none⟩) := (eval_get a 87).trans (hd 1 (by simp) _ rfl)
    have hcc : W.cell? ⟨w.heap.size, 1, none⟩ = some (.int .u64 (h : Int)) := (X1.out.ab hb).cell (k := 1) rfl
    go_simp
  · refine ⟨rfl, IsR.mono _, fun a W hA hb hd => takes_plain rfl (yields_value _ ?_ rfl)⟩
    have h5 : a.tmps[5]?.getD undef = .pointer (some ⟨w.heap.size, 0, none⟩) := (eval_get a 5).trans ((hA.eval (by simp)).trans rfl)
    go_simp
  · refine ⟨rfl, IsR.mono _, fun a W hA hb hd => takes_plain rfl (yields_value _ ?_ rfl)⟩
    have h89 : a.tmps[89]?.getD undef = .pointer (some ⟨w.heap.size, 3, none⟩) := (eval_get a 89).trans (hd 3 (by simp) _ rfl)
    have hcc : W.cell? ⟨w.heap.size, 3, none⟩ = some (.int .u8 (r : Int)) := (X1.out.ab hb).cell (k := 3) rfl
    go_simp
  · refine ⟨rfl, IsR.mono _, fun a W hA hb hd => takes_plain rfl ?_⟩
    have h86 : a.tmps[86]?.getD undef = .pointer (some ⟨c, 0, none⟩) := (eval_get a 86).trans (hd 0 (by simp) _ rfl)
    have h88 : a.tmps[88]?.getD undef = .int .u64 (h : Int) := (eval_get a 88).trans (hd 2 (by simp) _ rfl)
    have h90 : a.tmps[90]?.getD undef = .int .u8 (r : Int) := (eval_get a 90).trans (hd 4 (by simp) _ rfl)
    refine yields_call 29 #[.pointer (some ⟨c, 0, none⟩), .int .u64 (h : Int), .int .u8 (r : Int)] (by go_simp) ((K1.out W hb).mono ?_)
    rintro e W2 ⟨rfl, hb2⟩
    exact ⟨_, rfl, rfl, hb2⟩
  · refine ⟨rfl, IsR.mono _, fun a W hA hb hd => takes_plain rfl (yields_value _ ?_ rfl)⟩
    have h1 : a.tmps[1]?.getD undef = .pointer (some ⟨g, 0, none⟩) := (eval_get a 1).trans ((hA.eval (by simp)).trans rfl)
    go_simp
  · refine ⟨rfl, IsR.mono _, fun a W hA hb hd => takes_plain rfl (yields_value _ ?_ rfl)⟩
    have h5 : a.tmps[5]?.getD undef = .pointer (some ⟨w.heap.size, 0, none⟩) := (eval_get a 5).trans ((hA.eval (by simp)).trans rfl)
    go_simp
  · refine ⟨rfl, IsR.mono _, fun a W hA hb hd => takes_plain rfl (yields_value _ ?_ rfl)⟩
    have h93 : a.tmps[93]?.getD undef = .pointer (some ⟨w.heap.size, 1, none⟩) := (eval_get a 93).trans (hd 7 (by simp) _ rfl)
    have hcc : W.cell? ⟨w.heap.size, 1, none⟩ = some (.int .u64 (h : Int)) := (X1.out.ab hb).cell (k := 1) rfl
    go_simp
  · refine ⟨rfl, IsR.mono _, fun a W hA hb hd => takes_plain rfl (yields_value _ ?_ rfl)⟩
    have h5 : a.tmps[5]?.getD undef = .pointer (some ⟨w.heap.size, 0, none⟩) := (eval_get a 5).trans ((hA.eval (by simp)).trans rfl)
    go_simp
  · refine ⟨rfl, IsR.mono _, fun a W hA hb hd => takes_plain rfl (yields_value _ ?_ rfl)⟩
    have h95 : a.tmps[95]?.getD undef = .pointer (some ⟨w.heap.size, 3, none⟩) := (eval_get a 95).trans (hd 9 (by simp) _ rfl)
    have hcc : W.cell? ⟨w.heap.size, 3, none⟩ = some (.int .u8 (r : Int)) := (X1.out.ab hb).cell (k := 3) rfl
    go_simp
  · refine ⟨rfl, IsR.mono _, fun a W hA hb hd => takes_plain rfl ?_⟩
    have h92 : a.tmps[92]?.getD undef = .pointer (some ⟨g, 0, none⟩) := (eval_get a 92).trans (hd 6 (by simp) _ rfl)
    have h94 : a.tmps[94]?.getD undef = .int .u64 (h : Int) := (eval_get a 94).trans (hd 8 (by simp) _ rfl)
    have h96 : a.tmps[96]?.getD undef = .int .u8 (r : Int) := (eval_get a 96).trans (hd 10 (by simp) _ rfl)
    refine yields_call 30 #[.pointer (some ⟨g, 0, none⟩), .int .u64 (h : Int), .int .u8 (r : Int)] (by go_simp) ((K2.out W hb).mono ?_)
    rintro e W2 ⟨rfl, hb2⟩
    exact ⟨_, rfl, rfl, hb2⟩
  intro vs w2 hR hF hb
  have e86 : vs 86 = .pointer (some ⟨c, 0, none⟩) := hR 0 _ rfl
  have e87 : vs 87 = .pointer (some ⟨w.heap.size, 1, none⟩) := hR 1 _ rfl
  have e88 : vs 88 = .int .u64 (h : Int) := hR 2 _ rfl
  have e89 : vs 89 = .pointer (some ⟨w.heap.size, 3, none⟩) := hR 3 _ rfl
  have e90 : vs 90 = .int .u8 (r : Int) := hR 4 _ rfl
  have e91 : vs 91 = .int .i64 (q : Int) := hR 5 _ rfl
  have e92 : vs 92 = .pointer (some ⟨g, 0, none⟩) := hR 6 _ rfl
  have e93 : vs 93 = .pointer (some ⟨w.heap.size, 1, none⟩) := hR 7 _ rfl
  have e94 : vs 94 = .int .u64 (h : Int) := hR 8 _ rfl
  have e95 : vs 95 = .pointer (some ⟨w.heap.size, 3, none⟩) := hR 9 _ rfl
  have e96 : vs 96 = .int .u8 (r : Int) := hR 10 _ rfl
  have e97 : vs 97 = .int .i64 (q : Int) := hR 11 _ rfl
  simp only [List.map_cons, List.map_nil, List.foldl_cons, List.foldl_nil, List.length_cons, List.length_nil, List.drop_succ_cons, List.drop_zero, Act.put, List.setIfInBounds_toArray, List.set_cons_zero, List.set_cons_succ, e86, e87, e88, e89, e90, e91, e92, e93, e94, e95, e96, e97]
  have B2 := Lib.hid hb
  clear hR hF hb e86 e87 e88 e89 e90 e91 e92 e93 e94 e95 e96 e97
  go_wp2_with fail
  go_ret
  exact ⟨by simp, ⟨_, C1.out.ab B2.out⟩, ⟨_, R1.out.ab B2.out⟩, B1.out.trans (B2.out.mono (Nat.le_trans HL.out B1.out.size))⟩
set_option maxRecDepth 100000 in
set_option maxHeartbeats 4000000 in
theorem do5 {B c g h vv r : Nat} {mo : Option Nat} {v : Value} {A : HL} {w : World} (hc : CpA w B c mo A) (hr : RcB w B g v A) (hB : B ≤ c) (hG : B ≤ g) (hm : A.length < 800) (hk : u64Ok h) (hv : u64Ok vv) :
    Calls Try.prog 17 #[.pointer (some ⟨c, 0, none⟩), .pointer (some ⟨g, 0, none⟩), .agg #[.int .i64 5, .int .u64 (h : Int), .int .u64 (vv : Int), .int .u8 (r : Int)]] w (DoR B c g w A) := by
  have ha : Below w.heap.size w (w.alloc (.cells #[.int .i64 5, .int .u64 (h : Int), .int .u64 (vv : Int), .int .u8 (r : Int)] 37)) := (Below.refl _ _).alloc (Nat.le_refl _) _
  have hbo : CbB (w.alloc (.cells #[.int .i64 5, .int .u64 (h : Int), .int .u64 (vv : Int), .int .u8 (r : Int)] 37)) w.heap.size 37 #[.int .i64 5, .int .u64 (h : Int), .int .u64 (vv : Int), .int .u8 (r : Int)] := CbB.new _ _ _
  have HB := Lib.hid hB
  have HG := Lib.hid hG
  have HL := Lib.hid hc.low
  have C1 := Lib.hid (hc.ab ha)
  have R1 := Lib.hid (hr.ab ha)
  have B1 : Hid (Below B w (w.alloc (.cells #[.int .i64 5, .int .u64 (h : Int), .int .u64 (vv : Int), .int .u8 (r : Int)] 37))) := Lib.hid (ha.mono hc.low)
  have X1 := Lib.hid hbo
  have K1 := Lib.hid fun W (hW : Below (w.alloc (.cells #[.int .i64 5, .int .u64 (h : Int), .int .u64 (vv : Int), .int .u8 (r : Int)] 37)).heap.size (w.alloc (.cells #[.int .i64 5, .int .u64 (h : Int), .int .u64 (vv : Int), .int .u8 (r : Int)] 37)) W) => belowA_any (h := h) (v := vv) (C1.out.ab hW) hk hv (by omega)
  have K2 := Lib.hid fun W (hW : Below (w.alloc (.cells #[.int .i64 5, .int .u64 (h : Int), .int .u64 (vv : Int), .int .u8 (r : Int)] 37)).heap.size (w.alloc (.cells #[.int .i64 5, .int .u64 (h : Int), .int .u64 (vv : Int), .int .u8 (r : Int)] 37)) W) => rbelow_any (h := h) (k := vv) (R1.out.ab hW) hc.right (by omega)
  have h0 := X1.out.cell (k := 0) rfl
  generalize belowH A h vv = q at *
  clear hc hr hB hG hm hk hv ha hbo
  go_enter Try.func17, Try.ntmps17
  go_upto_region 19 with (fail)
  clear h0
  obtain ⟨w1, hw1⟩ : ∃ w1, w.alloc (.cells #[.int .i64 5, .int .u64 (h : Int), .int .u64 (vv : Int), .int .u8 (r : Int)] 37) = w1 := ⟨_, rfl⟩
  rw [hw1] at C1 R1 B1 X1 K1 K2 ⊢
  clear hw1
  refine wp_wide3 [⟨134, IsR (.pointer (some ⟨c, 0, none⟩)), [], false⟩, ⟨135, IsR (.pointer (some ⟨w.heap.size, 1, none⟩)), [], false⟩, ⟨136, IsR (.int .u64 (h : Int)), [1], false⟩, ⟨137, IsR (.pointer (some ⟨w.heap.size, 2, none⟩)), [], false⟩, ⟨138, IsR (.int .u64 (vv : Int)), [3], false⟩, ⟨139, IsR (.bool q), [0, 2, 4], false⟩, ⟨140, IsR (.pointer (some ⟨g, 0, none⟩)), [], false⟩, ⟨141, IsR (.pointer (some ⟨w.heap.size, 1, none⟩)), [], false⟩, ⟨142, IsR (.int .u64 (h : Int)), [7], false⟩, ⟨143, IsR (.pointer (some ⟨w.heap.size, 2, none⟩)), [], false⟩, ⟨144, IsR (.int .u64 (vv : Int)), [9], false⟩, ⟨145, IsR (.bool q), [6, 8, 10], false⟩] (by kernel_rfl) (by kernel_rfl) rfl rfl rfl ⟨?_, ?_, ?_, ?_, ?_, ?_, ?_, ?_, ?_, ?_, ?_, ?_, trivial⟩ ?_
  · refine ⟨rfl, IsR.mono _, fun a W hA hb hd => takes_plain rfl (yields_value _ ?_ rfl)⟩
    have h0 : a.tmps[0]?.getD undef = .pointer (some ⟨c, 0, none⟩) := (eval_get a 0).trans ((hA.eval (by simp)).trans rfl)
    go_simp
  · refine ⟨rfl, IsR.mono _, fun a W hA hb hd => takes_plain rfl (yields_value _ ?_ rfl)⟩
    have h5 : a.tmps[5]?.getD undef = .pointer (some ⟨w.heap.size, 0, none⟩) := (eval_get a 5).trans ((hA.eval (by simp)).trans rfl)
    go_simp
  · refine ⟨rfl, IsR.mono _, fun a W hA hb hd => takes_plain rfl (yields_value _ ?_ rfl)⟩
    have h135 : a.tmps[135]?.getD undef = .pointer (some ⟨w.heap.size, 1, none⟩) := (eval_get a 135).trans (hd 1 (by simp) _ rfl)
    have hcc : W.cell? ⟨w.heap.size, 1, none⟩ = some (.int .u64 (h : Int)) := (X1.out.ab hb).cell (k := 1) rfl
    go_simp
  · refine ⟨rfl, IsR.mono _, fun a W hA hb hd => takes_plain rfl (yields_value _ ?_ rfl)⟩
    have h5 : a.tmps[5]?.getD undef = .pointer (some ⟨w.heap.size, 0, none⟩) := (eval_get a 5).trans ((hA.eval (by simp)).trans rfl)
    go_simp
  · refine ⟨rfl, IsR.mono _, fun a W hA hb hd => takes_plain rfl (yields_value _ ?_ rfl)⟩
    have h137 : a.tmps[137]?.getD undef = .pointer (some ⟨w.heap.size, 2, none⟩) := (eval_get a 137).trans (hd 3 (by simp) _ rfl)
    have hcc : W.cell? ⟨w.heap.size, 2, none⟩ = some (.int .u64 (vv : Int)) := (X1.out.ab hb).cell (k := 2) rfl
    go_simp
  · refine ⟨rfl, IsR.mono _, fun a W hA hb hd => takes_plain rfl ?_⟩
    have h134 : a.tmps[134]?.getD undef = .pointer (some ⟨c, 0, none⟩) := (eval_get a 134).trans (hd 0 (by simp) _ rfl)
    have h136 : a.tmps[136]?.getD undef = .int .u64 (h : Int) := (eval_get a 136).trans (hd 2 (by simp) _ rfl)
    have h138 : a.tmps[138]?.getD undef = .int .u64 (vv : Int) := (eval_get a 138).trans (hd 4 (by simp) _ rfl)
    refine yields_call 15 #[.pointer (some ⟨c, 0, none⟩), .int .u64 (h : Int), .int .u64 (vv : Int)] (by go_simp) ((K1.out W hb).mono ?_)
    rintro e W2 ⟨rfl, hb2⟩
    exact ⟨_, rfl, rfl, hb2⟩
  · refine ⟨rfl, IsR.mono _, fun a W hA hb hd => takes_plain rfl (yields_value _ ?_ rfl)⟩
    have h1 : a.tmps[1]?.getD undef = .pointer (some ⟨g, 0, none⟩) := (eval_get a 1).trans ((hA.eval (by simp)).trans rfl)
    go_simp
  · refine ⟨rfl, IsR.mono _, fun a W hA hb hd => takes_plain rfl (yields_value _ ?_ rfl)⟩
    have h5 : a.tmps[5]?.getD undef = .pointer (some ⟨w.heap.size, 0, none⟩) := (eval_get a 5).trans ((hA.eval (by simp)).trans rfl)
    go_simp
  · refine ⟨rfl, IsR.mono _, fun a W hA hb hd => takes_plain rfl (yields_value _ ?_ rfl)⟩
    have h141 : a.tmps[141]?.getD undef = .pointer (some ⟨w.heap.size, 1, none⟩) := (eval_get a 141).trans (hd 7 (by simp) _ rfl)
    have hcc : W.cell? ⟨w.heap.size, 1, none⟩ = some (.int .u64 (h : Int)) := (X1.out.ab hb).cell (k := 1) rfl
    go_simp
  · refine ⟨rfl, IsR.mono _, fun a W hA hb hd => takes_plain rfl (yields_value _ ?_ rfl)⟩
    have h5 : a.tmps[5]?.getD undef = .pointer (some ⟨w.heap.size, 0, none⟩) := (eval_get a 5).trans ((hA.eval (by simp)).trans rfl)
    go_simp
  · refine ⟨rfl, IsR.mono _, fun a W hA hb hd => takes_plain rfl (yields_value _ ?_ rfl)⟩
    have h143 : a.tmps[143]?.getD undef = .pointer (some ⟨w.heap.size, 2, none⟩) := (eval_get a 143).trans (hd 9 (by simp) _ rfl)
    have hcc : W.cell? ⟨w.heap.size, 2, none⟩ = some (.int .u64 (vv : Int)) := (X1.out.ab hb).cell (k := 2) rfl
    go_simp
  · refine ⟨rfl, IsR.mono _, fun a W hA hb hd => takes_plain rfl ?_⟩
    have h140 : a.tmps[140]?.getD undef = .pointer (some ⟨g, 0, none⟩) := (eval_get a 140).trans (hd 6 (by simp) _ rfl)
    have h142 : a.tmps[142]?.getD undef = .int .u64 (h : Int) := (eval_get a 142).trans (hd 8 (by simp) _ rfl)
    have h144 : a.tmps[144]?.getD undef = .int .u64 (vv : Int) := (eval_get a 144).trans (hd 10 (by simp) _ rfl)
    refine yields_call 32 #[.pointer (some ⟨g, 0, none⟩), .int .u64 (h : Int), .int .u64 (vv : Int)] (by go_simp) ((K2.out W hb).mono ?_)
    rintro e W2 ⟨rfl, hb2⟩
    exact ⟨_, rfl, rfl, hb2⟩
  intro vs w2 hR hF hb
  have e134 : vs 134 = .pointer (some ⟨c, 0, none⟩) := hR 0 _ rfl
  have e135 : vs 135 = .pointer (some ⟨w.heap.size, 1, none⟩) := hR 1 _ rfl
  have e136 : vs 136 = .int .u64 (h : Int) := hR 2 _ rfl
  have e137 : vs 137 = .pointer (some ⟨w.heap.size, 2, none⟩) := hR 3 _ rfl
  have e138 : vs 138 = .int .u64 (vv : Int) := hR 4 _ rfl
  have e139 : vs 139 = .bool q := hR 5 _ rfl
  have e140 : vs 140 = .pointer (some ⟨g, 0, none⟩) := hR 6 _ rfl
  have e141 : vs 141 = .pointer (some ⟨w.heap.size, 1, none⟩) := hR 7 _ rfl
  have e142 : vs 142 = .int .u64 (h : Int) := hR 8 _ rfl
  have e143 : vs 143 = .pointer (some ⟨w.heap.size, 2, none⟩) := hR 9 _ rfl
  have e144 : vs 144 = .int .u64 (vv : Int) := hR 10 _ rfl
  have e145 : vs 145 = .bool q := hR 11 _ rfl
  simp only [List.map_cons, List.map_nil, List.foldl_cons, List.foldl_nil, List.length_cons, List.length_nil, List.drop_succ_cons, List.drop_zero, Act.put, List.setIfInBounds_toArray, List.set_cons_zero, List.set_cons_succ, e134, e135, e136, e137, e138, e139, e140, e141, e142, e143, e144, e145]
  have B2 := Lib.hid hb
  clear hR hF hb e134 e135 e136 e137 e138 e139 e140 e141 e142 e143 e144 e145
  go_wp2_with fail
  go_ret
  exact ⟨by simp, ⟨_, C1.out.ab B2.out⟩, ⟨_, R1.out.ab B2.out⟩, B1.out.trans (B2.out.mono (Nat.le_trans HL.out B1.out.size))⟩
/-- what a drawn operation may do beside the other one -/
def StepD (B c g a b : Nat) (i : Nat) (W W' : World) : Prop := Below W.heap.size W W' ∨ (i = a ∧ ∃ mo A, CpA W B c mo A ∧ Fr W W' (capF c mo)) ∨ (i = b ∧ ∃ v A, RcB W B g v A ∧ Fr W W' (fun k => k = g ∨ v.ownBlock = some k))
def PreD (B c g a b : Nat) (A : HL) (j : Nat) (W : World) : Prop := (j = a → ∃ mo, CpA W B c mo A) ∧ (j = b → ∃ v, RcB W B g v A)
section
variable {B c g a b i : Nat} {W W' : World} {A : HL}
theorem stepD_c (hi : i ≠ a) (h : StepD B c g a b i W W') (hp : ∃ mo, CpA W B c mo A) : ∃ mo, CpA W' B c mo A := by
  obtain ⟨mo, hc⟩ := hp
  rcases h with h | ⟨h, _⟩ | ⟨_, v, A2, hr, hf⟩
  · exact ⟨mo, hc.ab h⟩
  · exact absurd h hi
  · exact ⟨mo, hc.frR hr hf⟩
theorem stepD_r (hi : i ≠ b) (h : StepD B c g a b i W W') (hp : ∃ v, RcB W B g v A) : ∃ v, RcB W' B g v A := by
  obtain ⟨v, hr⟩ := hp
  rcases h with h | ⟨_, mo, A2, hc, hf⟩ | ⟨h, _⟩
  · exact ⟨v, hr.ab h⟩
  · exact ⟨v, hr.frC hc hf⟩
  · exact absurd h hi
theorem stepD_pre (hab : a ≠ b) : ∀ i j, i ≠ j → ∀ W W', StepD B c g a b i W W' → PreD B c g a b A j W → PreD B c g a b A j W' := fun i j hij W W' hs hp => ⟨fun e => stepD_c (by omega) hs (hp.1 e), fun e => stepD_r (by omega) hs (hp.2 e)⟩
theorem stepD_below (hB : B ≤ c) (hG : B ≤ g) (hL : B ≤ W.heap.size) (h : StepD B c g a b i W W') : Below B W W' := by
  rcases h with h | ⟨_, mo, A2, hc, hf⟩ | ⟨_, v, A2, hr, hf⟩
  · exact h.mono hL
  · exact belowC hB hc hf
  · exact belowR hG hr hf
theorem stepD_box {o : Nat} {T : TypeId} {cs : Array Value} (h1 : T ≠ 52) (h2 : T ≠ 47) (h3 : T ≠ 66) (h : StepD B c g a b i W W') (ho : CbB W o T cs) : CbB W' o T cs := by
  rcases h with h | ⟨_, mo, A2, hc, hf⟩ | ⟨_, v, A2, hr, hf⟩
  · exact ho.ab h
  · exact ho.frC h1 hc hf
  · exact ho.frR h2 h3 hr hf
end
theorem takes6_pl {P : Program} {ops : Array Oper} {o : Oper} {a : Act} {W : World} {S : World → World → Prop} {R : Value → World → Prop} (hg : o.guard = none) (h : Yields6 P o a W S R) : Takes6 P ops o a W S R := .inl ⟨by simp [Region.wanted, hg], h⟩
set_option maxRecDepth 100000 in
set_option maxHeartbeats 4000000 in
theorem do2 {B c g h vv r : Nat} {mo : Option Nat} {v : Value} {A : HL} {w : World} (hc : CpA w B c mo A) (hr : RcB w B g v A) (hB : B ≤ c) (hG : B ≤ g) (hm : A.length < 800) (hk : u64Ok h) (hv : u64Ok vv) :
    Calls Try.prog 17 #[.pointer (some ⟨c, 0, none⟩), .pointer (some ⟨g, 0, none⟩), .agg #[.int .i64 2, .int .u64 (h : Int), .int .u64 (vv : Int), .int .u8 (r : Int)]] w (DoR B c g w (revokeH A h vv).2) := by
  have ha : Below w.heap.size w (w.alloc (.cells #[.int .i64 2, .int .u64 (h : Int), .int .u64 (vv : Int), .int .u8 (r : Int)] 37)) := (Below.refl _ _).alloc (Nat.le_refl _) _
  have hbo : CbB (w.alloc (.cells #[.int .i64 2, .int .u64 (h : Int), .int .u64 (vv : Int), .int .u8 (r : Int)] 37)) w.heap.size 37 #[.int .i64 2, .int .u64 (h : Int), .int .u64 (vv : Int), .int .u8 (r : Int)] := CbB.new _ _ _
  have HB := Lib.hid hB
  have HG := Lib.hid hG
  have HL := Lib.hid hc.low
  have C1 := Lib.hid (hc.ab ha)
  have R1 := Lib.hid (hr.ab ha)
  have B1 : Hid (Below B w (w.alloc (.cells #[.int .i64 2, .int .u64 (h : Int), .int .u64 (vv : Int), .int .u8 (r : Int)] 37))) := Lib.hid (ha.mono hc.low)
  have X1 := Lib.hid hbo
  have K1 := Lib.hid fun W mo' (hW : CpA W B c mo' A) => revokeA_any (h := h) (v := vv) hW hk hv (by omega)
  have K2 := Lib.hid fun W v' (hW : RcB W B g v' A) => rrevoke_any (h := h) (vv := vv) hW hc.right (by omega)
  have h0 := X1.out.cell (k := 0) rfl
  generalize revokeH A h vv = P at *
  obtain ⟨q, A'⟩ := P
  try simp only at K1 K2 ⊢
  clear hc hr hB hG hm hk hv ha hbo
  go_enter Try.func17, Try.ntmps17
  go_upto_region 11 with (fail)
  clear h0
  obtain ⟨w1, hw1⟩ : ∃ w1, (w.alloc (.cells #[.int .i64 2, .int .u64 (h : Int), .int .u64 (vv : Int), .int .u8 (r : Int)] 37)) = w1 := ⟨_, rfl⟩
  rw [hw1] at C1 R1 B1 X1 ⊢
  clear hw1
  refine wp_wide6 (fun W => Below B w W ∧ CbB W w.heap.size 37 #[.int .i64 2, .int .u64 (h : Int), .int .u64 (vv : Int), .int .u8 (r : Int)]) (PreD B c g 5 11 A) (StepD B c g 5 11) [⟨71, IsR (.pointer (some ⟨c, 0, none⟩)), [], false⟩, ⟨72, IsR (.pointer (some ⟨w.heap.size, 1, none⟩)), [], false⟩, ⟨73, IsR (.int .u64 (h : Int)), [1], false⟩, ⟨74, IsR (.pointer (some ⟨w.heap.size, 2, none⟩)), [], false⟩, ⟨75, IsR (.int .u64 (vv : Int)), [3], false⟩, ⟨76, (fun z W => z = .int .i64 (q : Int) ∧ ∃ mo, CpA W B c mo A'), [0, 2, 4], false⟩, ⟨77, IsR (.pointer (some ⟨g, 0, none⟩)), [], false⟩, ⟨78, IsR (.pointer (some ⟨w.heap.size, 1, none⟩)), [], false⟩, ⟨79, IsR (.int .u64 (h : Int)), [7], false⟩, ⟨80, IsR (.pointer (some ⟨w.heap.size, 2, none⟩)), [], false⟩, ⟨81, IsR (.int .u64 (vv : Int)), [9], false⟩, ⟨82, (fun z W => z = .int .i64 (q : Int) ∧ ∃ v, RcB W B g v A'), [6, 8, 10], false⟩] rfl (by kernel_rfl) (by kernel_rfl) rfl rfl (stepD_pre (by decide)) (fun i W W1 hs hg => ⟨hg.1.trans (stepD_below HB.out HG.out (Nat.le_trans HL.out hg.1.size) hs), stepD_box (by decide) (by decide) (by decide) hs hg.2⟩) (fun i W => .inl (Below.refl _ _)) (fun j => ⟨fun _ => ⟨_, C1.out.ab ⟨rfl, rfl, rfl, Nat.le_refl _, fun _ _ => rfl⟩⟩, fun _ => ⟨_, R1.out.ab ⟨rfl, rfl, rfl, Nat.le_refl _, fun _ _ => rfl⟩⟩⟩) ⟨⟨B1.out.os, B1.out.tape, B1.out.output, B1.out.size, B1.out.block⟩, X1.out⟩ ⟨?_, ?_, ?_, ?_, ?_, ?_, ?_, ?_, ?_, ?_, ?_, ?_, trivial⟩ ?_
  · refine ⟨rfl, fun j hj v W W1 h hs => h, fun a W hA hb hp hd => Takes.to6 (takes_plain rfl (yields_value _ ?_ rfl)) fun W1 h1 => .inl h1⟩
    have h0 : a.tmps[0]?.getD undef = .pointer (some ⟨c, 0, none⟩) := (eval_get a 0).trans ((hA.eval (by simp)).trans rfl)
    go_simp
  · refine ⟨rfl, fun j hj v W W1 h hs => h, fun a W hA hb hp hd => Takes.to6 (takes_plain rfl (yields_value _ ?_ rfl)) fun W1 h1 => .inl h1⟩
    have h5 : a.tmps[5]?.getD undef = .pointer (some ⟨w.heap.size, 0, none⟩) := (eval_get a 5).trans ((hA.eval (by simp)).trans rfl)
    go_simp
  · refine ⟨rfl, fun j hj v W W1 h hs => h, fun a W hA hb hp hd => Takes.to6 (takes_plain rfl (yields_value _ ?_ rfl)) fun W1 h1 => .inl h1⟩
    have h72 : a.tmps[72]?.getD undef = .pointer (some ⟨w.heap.size, 1, none⟩) := (eval_get a 72).trans (hd 1 (by simp) _ rfl)
    have hcc : W.cell? ⟨w.heap.size, 1, none⟩ = some (.int .u64 (h : Int)) := hb.2.cell (k := 1) rfl
    go_simp
  · refine ⟨rfl, fun j hj v W W1 h hs => h, fun a W hA hb hp hd => Takes.to6 (takes_plain rfl (yields_value _ ?_ rfl)) fun W1 h1 => .inl h1⟩
    have h5 : a.tmps[5]?.getD undef = .pointer (some ⟨w.heap.size, 0, none⟩) := (eval_get a 5).trans ((hA.eval (by simp)).trans rfl)
    go_simp
  · refine ⟨rfl, fun j hj v W W1 h hs => h, fun a W hA hb hp hd => Takes.to6 (takes_plain rfl (yields_value _ ?_ rfl)) fun W1 h1 => .inl h1⟩
    have h74 : a.tmps[74]?.getD undef = .pointer (some ⟨w.heap.size, 2, none⟩) := (eval_get a 74).trans (hd 3 (by simp) _ rfl)
    have hcc : W.cell? ⟨w.heap.size, 2, none⟩ = some (.int .u64 (vv : Int)) := hb.2.cell (k := 2) rfl
    go_simp
  · refine ⟨rfl, fun j hj v W W1 h hs => ⟨h.1, stepD_c hj hs h.2⟩, fun a W hA hb hp hd => takes6_pl rfl ?_⟩
    have h71 : a.tmps[71]?.getD undef = .pointer (some ⟨c, 0, none⟩) := (eval_get a 71).trans (hd 0 (by simp) _ rfl)
    have h73 : a.tmps[73]?.getD undef = .int .u64 (h : Int) := (eval_get a 73).trans (hd 2 (by simp) _ rfl)
    have h75 : a.tmps[75]?.getD undef = .int .u64 (vv : Int) := (eval_get a 75).trans (hd 4 (by simp) _ rfl)
    obtain ⟨mo1, hc1⟩ := hp.1 rfl
    refine .inr ⟨9, #[.pointer (some ⟨c, 0, none⟩), .int .u64 (h : Int), .int .u64 (vv : Int)], by go_simp, (K1.out W mo1 hc1).mono ?_⟩
    rintro e W1 ⟨rfl, mo2, hc2, hf2, _⟩
    exact ⟨_, rfl, ⟨rfl, mo2, hc2⟩, .inr (.inl ⟨rfl, mo1, A, hc1, hf2⟩)⟩
  · refine ⟨rfl, fun j hj v W W1 h hs => h, fun a W hA hb hp hd => Takes.to6 (takes_plain rfl (yields_value _ ?_ rfl)) fun W1 h1 => .inl h1⟩
    have h1 : a.tmps[1]?.getD undef = .pointer (some ⟨g, 0, none⟩) := (eval_get a 1).trans ((hA.eval (by simp)).trans rfl)
    go_simp
  · refine ⟨rfl, fun j hj v W W1 h hs => h, fun a W hA hb hp hd => Takes.to6 (takes_plain rfl (yields_value _ ?_ rfl)) fun W1 h1 => .inl h1⟩
    have h5 : a.tmps[5]?.getD undef = .pointer (some ⟨w.heap.size, 0, none⟩) := (eval_get a 5).trans ((hA.eval (by simp)).trans rfl)
    go_simp
  · refine ⟨rfl, fun j hj v W W1 h hs => h, fun a W hA hb hp hd => Takes.to6 (takes_plain rfl (yields_value _ ?_ rfl)) fun W1 h1 => .inl h1⟩
    have h78 : a.tmps[78]?.getD undef = .pointer (some ⟨w.heap.size, 1, none⟩) := (eval_get a 78).trans (hd 7 (by simp) _ rfl)
    have hcc : W.cell? ⟨w.heap.size, 1, none⟩ = some (.int .u64 (h : Int)) := hb.2.cell (k := 1) rfl
    go_simp
  · refine ⟨rfl, fun j hj v W W1 h hs => h, fun a W hA hb hp hd => Takes.to6 (takes_plain rfl (yields_value _ ?_ rfl)) fun W1 h1 => .inl h1⟩
    have h5 : a.tmps[5]?.getD undef = .pointer (some ⟨w.heap.size, 0, none⟩) := (eval_get a 5).trans ((hA.eval (by simp)).trans rfl)
    go_simp
  · refine ⟨rfl, fun j hj v W W1 h hs => h, fun a W hA hb hp hd => Takes.to6 (takes_plain rfl (yields_value _ ?_ rfl)) fun W1 h1 => .inl h1⟩
    have h80 : a.tmps[80]?.getD undef = .pointer (some ⟨w.heap.size, 2, none⟩) := (eval_get a 80).trans (hd 9 (by simp) _ rfl)
    have hcc : W.cell? ⟨w.heap.size, 2, none⟩ = some (.int .u64 (vv : Int)) := hb.2.cell (k := 2) rfl
    go_simp
  · refine ⟨rfl, fun j hj v W W1 h hs => ⟨h.1, stepD_r hj hs h.2⟩, fun a W hA hb hp hd => takes6_pl rfl ?_⟩
    have h77 : a.tmps[77]?.getD undef = .pointer (some ⟨g, 0, none⟩) := (eval_get a 77).trans (hd 6 (by simp) _ rfl)
    have h79 : a.tmps[79]?.getD undef = .int .u64 (h : Int) := (eval_get a 79).trans (hd 8 (by simp) _ rfl)
    have h81 : a.tmps[81]?.getD undef = .int .u64 (vv : Int) := (eval_get a 81).trans (hd 10 (by simp) _ rfl)
    obtain ⟨v1, hr1⟩ := hp.2 rfl
    refine .inr ⟨28, #[.pointer (some ⟨g, 0, none⟩), .int .u64 (h : Int), .int .u64 (vv : Int)], by go_simp, (K2.out W v1 hr1).mono ?_⟩
    rintro e W1 ⟨rfl, v2, hr2, hf2⟩
    exact ⟨_, rfl, ⟨rfl, v2, hr2⟩, .inr (.inr ⟨rfl, v1, A, hr1, hf2⟩)⟩
  intro vs w2 hR hb
  obtain ⟨q1, hc2⟩ : vs 76 = .int .i64 (q : Int) ∧ ∃ mo, CpA w2 B c mo A' := hR 5 _ rfl
  obtain ⟨q2, hr2⟩ : vs 82 = .int .i64 (q : Int) ∧ ∃ v, RcB w2 B g v A' := hR 11 _ rfl
  have e71 : vs 71 = .pointer (some ⟨c, 0, none⟩) := hR 0 _ rfl
  have e72 : vs 72 = .pointer (some ⟨w.heap.size, 1, none⟩) := hR 1 _ rfl
  have e73 : vs 73 = .int .u64 (h : Int) := hR 2 _ rfl
  have e74 : vs 74 = .pointer (some ⟨w.heap.size, 2, none⟩) := hR 3 _ rfl
  have e75 : vs 75 = .int .u64 (vv : Int) := hR 4 _ rfl
  have e77 : vs 77 = .pointer (some ⟨g, 0, none⟩) := hR 6 _ rfl
  have e78 : vs 78 = .pointer (some ⟨w.heap.size, 1, none⟩) := hR 7 _ rfl
  have e79 : vs 79 = .int .u64 (h : Int) := hR 8 _ rfl
  have e80 : vs 80 = .pointer (some ⟨w.heap.size, 2, none⟩) := hR 9 _ rfl
  have e81 : vs 81 = .int .u64 (vv : Int) := hR 10 _ rfl
  simp only [List.map_cons, List.map_nil, List.foldl_cons, List.foldl_nil, List.length_cons, List.length_nil, List.drop_succ_cons, List.drop_zero, Act.put, List.setIfInBounds_toArray, List.set_cons_zero, List.set_cons_succ, e71, e72, e73, e74, e75, e77, e78, e79, e80, e81, q1, q2]
  have C2 := Lib.hid hc2
  have R2 := Lib.hid hr2
  have B2 := Lib.hid hb.1
  clear hR hb hc2 hr2 q1 q2 e71 e72 e73 e74 e75 e77 e78 e79 e80 e81
  go_wp2_with fail
  go_ret
  exact ⟨by simp, C2.out, R2.out, B2.out⟩
set_option maxRecDepth 100000 in
set_option maxHeartbeats 4000000 in
theorem do4 {B c g h vv r : Nat} {mo : Option Nat} {v : Value} {A : HL} {w : World} (hc : CpA w B c mo A) (hr : RcB w B g v A) (hB : B ≤ c) (hG : B ≤ g) (hm : A.length < 800) (hk : u64Ok h) (hv : u64Ok vv) :
    Calls Try.prog 17 #[.pointer (some ⟨c, 0, none⟩), .pointer (some ⟨g, 0, none⟩), .agg #[.int .i64 4, .int .u64 (h : Int), .int .u64 (vv : Int), .int .u8 (r : Int)]] w (DoR B c g w A) := by
  have ha : Below w.heap.size w (w.alloc (.cells #[.int .i64 4, .int .u64 (h : Int), .int .u64 (vv : Int), .int .u8 (r : Int)] 37)) := (Below.refl _ _).alloc (Nat.le_refl _) _
  have hbo : CbB (w.alloc (.cells #[.int .i64 4, .int .u64 (h : Int), .int .u64 (vv : Int), .int .u8 (r : Int)] 37)) w.heap.size 37 #[.int .i64 4, .int .u64 (h : Int), .int .u64 (vv : Int), .int .u8 (r : Int)] := CbB.new _ _ _
  have HB := Lib.hid hB
  have HG := Lib.hid hG
  have HL := Lib.hid hc.low
  have C1 := Lib.hid (hc.ab ha)
  have R1 := Lib.hid (hr.ab ha)
  have B1 : Hid (Below B w (w.alloc (.cells #[.int .i64 4, .int .u64 (h : Int), .int .u64 (vv : Int), .int .u8 (r : Int)] 37))) := Lib.hid (ha.mono hc.low)
  have X1 := Lib.hid hbo
  have K1 := Lib.hid (rightsA_any h C1.out hk)
  have K2 := Lib.hid fun W (hW : Below (w.alloc (.cells #[.int .i64 4, .int .u64 (h : Int), .int .u64 (vv : Int), .int .u8 (r : Int)] 37)).heap.size (w.alloc (.cells #[.int .i64 4, .int .u64 (h : Int), .int .u64 (vv : Int), .int .u8 (r : Int)] 37)) W) => rat25_any (h := h) (R1.out.ab hW) (by omega)
  have h0 := X1.out.cell (k := 0) rfl
  have h1 := X1.out.cell (k := 1) rfl
  unfold rightsH at K1
  unfold AtR atP hagg at K2
  clear hc hr hB hG hm hk hv ha hbo
  cases hat : atH A h with
  | none =>
    rw [hat] at K1 K2
    clear hat
    go_enter Try.func17, Try.ntmps17
    go_wp2_with fail
    refine K1.out.mono ?_
    rintro e w1 ⟨rfl, hb⟩
    have B2 := Lib.hid hb
    have y1 := (X1.out.ab hb).cell (k := 1) rfl
    clear hb K1 h1 h0
    go_wp2_with fail
    refine (K2.out _ B2.out).mono ?_
    rintro e w2 ⟨rfl, hb⟩
    have B3 := Lib.hid (below_tr B2.out hb B2.out.size)
    have B4 := Lib.hid (B3.out.alloc B3.out.size (.cells #[.int .u8 0, .int .u64 0, .bool false] 66))
    clear hb K2 y1
    go_wp2_with fail
    go_ret
    exact ⟨by simp, ⟨_, C1.out.ab B4.out⟩, ⟨_, R1.out.ab B4.out⟩, B1.out.trans (B4.out.mono (Nat.le_trans HL.out B1.out.size))⟩
  | some x =>
    have hon := (atH_some.1 hat).2.2
    rw [hat] at K1 K2
    obtain ⟨xr, xu, xo⟩ := x
    obtain rfl : xo = true := hon
    try simp only at K1 K2
    clear hat
    go_enter Try.func17, Try.ntmps17
    go_wp2_with fail
    refine K1.out.mono ?_
    rintro e w1 ⟨rfl, hb⟩
    have B2 := Lib.hid hb
    have y1 := (X1.out.ab hb).cell (k := 1) rfl
    clear hb K1 h1 h0
    go_wp2_with fail
    refine (K2.out _ B2.out).mono ?_
    rintro e w2 ⟨rfl, hb⟩
    have B3 := Lib.hid (below_tr B2.out hb B2.out.size)
    have B4 := Lib.hid (B3.out.alloc B3.out.size (.cells #[.int .u8 (xr : Int), .int .u64 (xu : Int), .bool true] 66))
    clear hb K2 y1
    go_wp2_with fail
    go_ret
    exact ⟨by simp, ⟨_, C1.out.ab B4.out⟩, ⟨_, R1.out.ab B4.out⟩, B1.out.trans (B4.out.mono (Nat.le_trans HL.out B1.out.size))⟩
set_option maxRecDepth 100000 in
set_option maxHeartbeats 4000000 in
theorem do6 {B c g h vv r : Nat} {mo : Option Nat} {v : Value} {A : HL} {w : World} (hc : CpA w B c mo A) (hr : RcB w B g v A) (hB : B ≤ c) (hG : B ≤ g) (hm : A.length < 800) (hk : u64Ok h) (hv : u64Ok vv) :
    Calls Try.prog 17 #[.pointer (some ⟨c, 0, none⟩), .pointer (some ⟨g, 0, none⟩), .agg #[.int .i64 6, .int .u64 (h : Int), .int .u64 (vv : Int), .int .u8 (r : Int)]] w (DoR B c g w (clearH A)) := by
  have ha : Below w.heap.size w (w.alloc (.cells #[.int .i64 6, .int .u64 (h : Int), .int .u64 (vv : Int), .int .u8 (r : Int)] 37)) := (Below.refl _ _).alloc (Nat.le_refl _) _
  have hbo : CbB (w.alloc (.cells #[.int .i64 6, .int .u64 (h : Int), .int .u64 (vv : Int), .int .u8 (r : Int)] 37)) w.heap.size 37 #[.int .i64 6, .int .u64 (h : Int), .int .u64 (vv : Int), .int .u8 (r : Int)] := CbB.new _ _ _
  have HB := Lib.hid hB
  have HG := Lib.hid hG
  have HL := Lib.hid hc.low
  have C1 := Lib.hid (hc.ab ha)
  have R1 := Lib.hid (hr.ab ha)
  have B1 : Hid (Below B w (w.alloc (.cells #[.int .i64 6, .int .u64 (h : Int), .int .u64 (vv : Int), .int .u8 (r : Int)] 37))) := Lib.hid (ha.mono hc.low)
  have X1 := Lib.hid hbo
  have K1 := Lib.hid (rclear_any R1.out (by omega))
  have K2 := Lib.hid fun W mo' (hW : CpA W B c mo' A) => clearA_any hW
  have h0 := X1.out.cell (k := 0) rfl
  clear hc hr hB hG hm hk hv ha hbo
  go_enter Try.func17, Try.ntmps17
  go_wp2_with fail
  refine K1.out.mono ?_
  rintro e w1 ⟨⟨u, rfl⟩, hr1, hf1⟩
  have C2 := Lib.hid (C1.out.frR R1.out hf1)
  have B2 := Lib.hid (B1.out.trans (belowR HG.out R1.out hf1))
  have R2 := Lib.hid hr1
  clear hr1 hf1 K1 h0
  go_wp2_with fail
  refine (K2.out _ _ C2.out).mono ?_
  rintro e w2 ⟨rfl, hc2, hf2⟩
  have R3 := Lib.hid (R2.out.frC C2.out hf2)
  have B3 := Lib.hid (B2.out.trans (belowC HB.out C2.out hf2))
  have C3 := Lib.hid hc2
  clear hc2 hf2 K2
  go_wp2_with fail
  go_ret
  exact ⟨rfl, ⟨_, C3.out⟩, ⟨_, R3.out⟩, B3.out⟩
set_option maxRecDepth 100000 in
set_option maxHeartbeats 4000000 in
theorem do9 {z : Int} {B c g h vv r : Nat} {mo : Option Nat} {v : Value} {A : HL} {w : World} (hc : CpA w B c mo A) (hr : RcB w B g v A) (hB : B ≤ c) (hG : B ≤ g) (hm : A.length < 800) (hk : u64Ok h) (hv : u64Ok vv) (hz : ¬ (z = 0 ∨ z = 1 ∨ z = 2 ∨ z = 3 ∨ z = 4 ∨ z = 5 ∨ z = 6)) :
    Calls Try.prog 17 #[.pointer (some ⟨c, 0, none⟩), .pointer (some ⟨g, 0, none⟩), .agg #[.int .i64 z, .int .u64 (h : Int), .int .u64 (vv : Int), .int .u8 (r : Int)]] w (DoR B c g w A) := by
  have ha : Below w.heap.size w (w.alloc (.cells #[.int .i64 z, .int .u64 (h : Int), .int .u64 (vv : Int), .int .u8 (r : Int)] 37)) := (Below.refl _ _).alloc (Nat.le_refl _) _
  have hbo : CbB (w.alloc (.cells #[.int .i64 z, .int .u64 (h : Int), .int .u64 (vv : Int), .int .u8 (r : Int)] 37)) w.heap.size 37 #[.int .i64 z, .int .u64 (h : Int), .int .u64 (vv : Int), .int .u8 (r : Int)] := CbB.new _ _ _
  have HB := Lib.hid hB
  have HG := Lib.hid hG
  have HL := Lib.hid hc.low
  have C1 := Lib.hid (hc.ab ha)
  have R1 := Lib.hid (hr.ab ha)
  have B1 : Hid (Below B w (w.alloc (.cells #[.int .i64 z, .int .u64 (h : Int), .int .u64 (vv : Int), .int .u8 (r : Int)] 37))) := Lib.hid (ha.mono hc.low)
  have h0 := hbo.cell (k := 0) rfl
  have d0 : (z == 0) = false := by simp; omega
  have d1 : (z == 1) = false := by simp; omega
  have d2 : (z == 2) = false := by simp; omega
  have d3 : (z == 3) = false := by simp; omega
  have d4 : (z == 4) = false := by simp; omega
  have d5 : (z == 5) = false := by simp; omega
  have d6 : (z == 6) = false := by simp; omega
  clear hc hr hB hG hm hk hv ha hbo hz
  go_enter Try.func17, Try.ntmps17
  go_wp2_with fail
  go_ret
  exact ⟨rfl, ⟨_, C1.out⟩, ⟨_, R1.out⟩, B1.out⟩
theorem do_any {z : Int} {B c g h vv r : Nat} {mo : Option Nat} {v : Value} {A : HL} {w : World} (hc : CpA w B c mo A) (hr : RcB w B g v A) (hB : B ≤ c) (hG : B ≤ g) (hm : A.length < 800) (hk : u64Ok h) (hv : u64Ok vv) :
    Calls Try.prog 17 #[.pointer (some ⟨c, 0, none⟩), .pointer (some ⟨g, 0, none⟩), .agg #[.int .i64 z, .int .u64 (h : Int), .int .u64 (vv : Int), .int .u8 (r : Int)]] w (DoR B c g w (stepH A z h vv r)) := by
  unfold stepH
  by_cases h0 : z = 0
  · subst h0; exact do0 hc hr hB hG hm hk hv
  by_cases h1 : z = 1
  · subst h1; exact do1 hc hr hB hG hm hk hv
  by_cases h2 : z = 2
  · subst h2; exact do2 hc hr hB hG hm hk hv
  by_cases h6 : z = 6
  · subst h6; exact do6 hc hr hB hG hm hk hv
  rw [if_neg h0, if_neg h1, if_neg h2, if_neg h6]
  by_cases h3 : z = 3
  · subst h3; exact do3 hc hr hB hG hm hk hv
  by_cases h4 : z = 4
  · subst h4; exact do4 hc hr hB hG hm hk hv
  by_cases h5 : z = 5
  · subst h5; exact do5 hc hr hB hG hm hk hv
  exact do9 hc hr hB hG hm hk hv (by omega)
end Go.Proofs.Ytdkdkjglbnlmcaa
