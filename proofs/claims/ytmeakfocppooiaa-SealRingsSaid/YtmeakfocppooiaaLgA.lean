/-
  LOGS: NewLog, and Seal through a log that is empty yet: walks.
-/
import Derived.Test.YtmeakfocppooiaaRgC
import Derived.Test.YtmeakfocppooiaaMtA
namespace Go.Proofs.Ytmeakfocppooiaa
open Go.RowKit
set_option linter.unusedVariables false

/-- something that was sealed -/
structure Sl where
  l : Lb
  key : List Nat
  pay : List Nat
  blk : List Nat
def slv (s : Sl) : List Value := (lab s.l).toList ++ [.string (strOf s.key), .string (strOf s.pay), .string (strOf s.blk)]
def slvs : List Sl → List Value
  | [] => []
  | s :: r => slv s ++ slvs r
/-- A LOG: its struct's block, and what was sealed through it -/
structure LgB (w : World) (B g : Nat) (all : List Sl) : Prop where
  low : B ≤ w.heap.size
  box : ∃ v, CbB w g 127 #[v] ∧ w.ownsRow B 130 9 v all.length (slvs all)
theorem LgB.ab {w w' : World} {B g : Nat} {all : List Sl} (h : LgB w B g all) (hb : Below w.heap.size w w') : LgB w' B g all := by
  obtain ⟨v, h1, h2⟩ := h.box
  exact ⟨Nat.le_trans h.low hb.size, v, h1.ab hb, h2.kept (row := none) ⟨hb.os, hb.tape, hb.output, hb.size, fun i hi _ => hb.block i hi⟩ (by cases hv : v.ownBlock <;> simp)⟩
theorem LgB.lt {w : World} {B g : Nat} {all : List Sl} (h : LgB w B g all) : g < w.heap.size := by
  obtain ⟨v, h1, _⟩ := h.box
  exact h1.lt
theorem grown_of {w w' : World} (hb : Below w.heap.size w w') (row : Option Nat) : w.grownBy w' row := ⟨hb.os, hb.tape, hb.output, hb.size, fun i hi _ => hb.block i hi⟩
theorem grown_tr {a b c : World} {row : Option Nat} (h : a.grownBy b row) (k : b.grownBy c row) : a.grownBy c row := ⟨k.os.trans h.os, k.tape.trans h.tape, k.output.trans h.output, Nat.le_trans h.size k.size, fun i hi hn => (k.block i (Nat.lt_of_lt_of_le hi h.size) hn).trans (h.block i hi hn)⟩
theorem grown_cell (w : World) (g k : Nat) (v : Value) : w.grownBy (w.setCell ⟨g, k, none⟩ v) (some g) := ⟨rfl, rfl, rfl, by simp, fun i hi hn => Below.heap_setCell w ⟨g, k, none⟩ v i (fun e => hn (by rw [e]))⟩
theorem below_grown {B : Nat} {a b c : World} {r : Nat} (h : Below B a b) (k : b.grownBy c (some r)) (hr : B ≤ r) (hs : B ≤ b.heap.size) : Below B a c := h.trans ⟨k.os, k.tape, k.output, k.size, fun i hi => k.block i (by omega) (by simp; omega)⟩
set_option maxRecDepth 100000 in
theorem newLog_any (w : World) : Calls Try.prog 14 #[] w fun e w' => ∃ g, e = .returned (.pointer (some ⟨g, 0, none⟩)) ∧ w.heap.size ≤ g ∧ CbB w' g 127 #[.slice none 0 0] ∧ Below w.heap.size w w' := by
  go_enter Try.func14, Try.ntmps14
  go_wp2_with fail
  go_ret
  exact ⟨w.heap.size, rfl, Nat.le_refl _, CbB.new w _ _, (Below.refl _ _).alloc (Nat.le_refl _) _⟩
theorem LgB.empty {w : World} {B g : Nat} (h : CbB w g 127 #[.slice none 0 0]) (hB : B ≤ w.heap.size) : LgB w B g [] := ⟨hB, _, h, World.ownsRow_nil _ _ _ _⟩
/-- a fresh row of one -/
def OneR (cs : Array Value) (v : Value) (W : World) : Prop := ∃ G, v = .slice (some ⟨G, 0, none⟩) 1 1 ∧ CbB W G 130 cs
theorem OneR.mono (cs : Array Value) : Mono (OneR cs) := fun v W W' ⟨G, h1, h2⟩ hb => ⟨G, h1, h2.ab hb⟩
def RowR (B n : Nat) (xs : List Value) (v : Value) (W : World) : Prop := W.ownsRow B 130 9 v n xs
theorem RowR.mono (B n : Nat) (xs : List Value) : Mono (RowR B n xs) := fun v W W' h hb => h.kept (row := none) (grown_of hb none) (by cases hv : v.ownBlock <;> simp)
theorem infoSl : (Try.prog.info? 130).map (fun i => (i.zero, i.size, i.bytes)) = some (some (.agg #[.int .u32 0, .int .u8 0, .int .u8 0, .int .u32 0, .int .u64 0, .int .u16 0, .string ByteArray.empty, .string ByteArray.empty, .string ByteArray.empty]), 9, 80) := by kernel_rfl
theorem conv_str {w W : World} {A : Option Addr} {n c : Nat} {l : List Nat} (h : IsB w A n c l) (hb : Below w.heap.size w W) : (convert 28 9 (.slice A n c)).run Try.prog W = .ok (.string (strOf l)) W :=
  run_str (h.ab hb) _ _ _ Try.underlying28 Try.underlying5 Try.underlying9
theorem row_at {W : World} {G : Nat} {T : TypeId} {cs : List Value} (h : CbB W G T cs.toArray) : ∀ (j : Nat) u, cs[j]? = some u → W.cell? ((⟨G, 0, none⟩ : Addr).add j) = some u := fun j u hj => by
  rw [Addr.add_mid, Nat.zero_add]
  exact h.cell (by simpa using hj)
theorem own_ge9 {w : World} {B n s : Nat} {e : TypeId} {v : Value} {xs : List Value} (h : w.ownsRow B e s v n xs) : ∀ g, v.ownBlock = some g → B ≤ g := by
  rcases h.2 with ⟨rfl, _⟩ | ⟨g, cap, cur, rfl, hg, _⟩
  · intro g hg; cases hg
  · intro g' hg'
    have : g = g' := by injection hg'
    omega
theorem row_shape {w : World} {B n s : Nat} {e : TypeId} {v : Value} {xs : List Value} (h : w.ownsRow B e s v n xs) : ∃ A c, v = .slice A n c := by
  rcases h.2 with ⟨rfl, h0⟩ | ⟨g, cap, cur, rfl, _⟩
  · subst h0
    exact ⟨_, _, rfl⟩
  · exact ⟨_, _, rfl⟩
theorem row_low {w : World} {B B' n s : Nat} {e : TypeId} {v : Value} {xs : List Value} (h : w.ownsRow B e s v n xs) (hB : B' ≤ B) : w.ownsRow B' e s v n xs := by
  refine ⟨h.1, ?_⟩
  rcases h.2 with hn | ⟨g, cap, cur, e1, hb', rest⟩
  · exact .inl hn
  · exact .inr ⟨g, cap, cur, e1, by omega, rest⟩
set_option maxRecDepth 100000 in
set_option maxHeartbeats 4000000 in
theorem logSeal_no (g : Nat) (kA tA : Option Addr) (kn kc tn tc : Nat) (l : Lb) (key text : List Nat) (w : World) (hl : l.Ok) (ik : IsB w kA kn kc key) (it : IsB w tA tn tc text) (hs : (sealP key l text).2 ≠ 0) (h31 : (sealP key l text).2 ≤ 255) :
    Calls Try.prog 16 #[.pointer (some ⟨g, 0, none⟩), .slice kA kn kc, .agg (lab l), .slice tA tn tc] w (OutB w (sealP key l text).1 (sealP key l text).2) := by
  have L0 : Hid (LbB (w.alloc (.cells (lab l) 35)) w.heap.size l) := Lib.hid (heap_alloc_new w _)
  have B0 : Hid (Below w.heap.size w (w.alloc (.cells (lab l) 35))) := Lib.hid ((Below.refl _ _).alloc (Nat.le_refl _) _)
  have HS := Lib.hid fun W h1 h2 => lseal_any kA tA kn kc tn tc l key text W hl h1 h2
  have IK := Lib.hid ik
  have IT := Lib.hid it
  have hne : (((sealP key l text).2 : Int) == 0) = false := by simp [hs]
  generalize sealP key l text = S at *
  obtain ⟨R, err⟩ := S
  simp only at hs h31 HS hne ⊢
  rw [lab_cells] at HS L0 B0 ⊢
  clear hl ik it hs
  go_enter Try.func16, Try.ntmps16
  go_wp2_with fail
  refine (HS.out _ (IK.out.ab B0.out) (IT.out.ab B0.out)).mono ?_
  rintro e w1 ⟨v, rfl, hv, hb⟩
  have V1 := Lib.hid (hv.lower B0.out.size)
  have B1 := Lib.hid (below_tr B0.out hb B0.out.size)
  clear hv hb
  go_wp2_with fail
  go_ret2
  exact ⟨_, rfl, V1.out, B1.out⟩
theorem LgB.lower {w : World} {B B' g : Nat} {all : List Sl} (h : LgB w B g all) (hB : B' ≤ B) : LgB w B' g all := by
  obtain ⟨v, h1, h2⟩ := h.box
  exact ⟨Nat.le_trans hB h.low, v, h1, row_low h2 hB⟩
set_option maxRecDepth 100000 in
set_option maxHeartbeats 4000000 in
theorem logSeal_first (g : Nat) (kA tA : Option Addr) (kn kc tn tc : Nat) (l : Lb) (key text R : List Nat) (w : World) (hg : CbB w g 127 #[.slice none 0 0]) (hl : l.Ok) (ik : IsB w kA kn kc key) (it : IsB w tA tn tc text) (hs : sealP key l text = (R, 0)) :
    Calls Try.prog 16 #[.pointer (some ⟨g, 0, none⟩), .slice kA kn kc, .agg (lab l), .slice tA tn tc] w fun e w' => ∃ v, e = .returned (.tuple #[v, .int .i64 0]) ∧ OwB w' w.heap.size v R ∧ w.grownBy w' (some g) ∧ LgB w' w.heap.size g [⟨l, key, text, R⟩] := by
  obtain ⟨i0, hi0, hz0, hz1, hz2⟩ := info_parts infoSl
  have L0 : Hid (LbB (w.alloc (.cells (lab l) 35)) w.heap.size l) := Lib.hid (heap_alloc_new w _)
  have B0 : Hid (Below w.heap.size w (w.alloc (.cells (lab l) 35))) := Lib.hid ((Below.refl _ _).alloc (Nat.le_refl _) _)
  have HS := Lib.hid fun W h1 h2 => lseal_any kA tA kn kc tn tc l key text W hl h1 h2
  rw [hs] at HS
  have IK := Lib.hid ik
  have IT := Lib.hid it
  have GG := Lib.hid hg
  have SV : Hid (slvs [⟨l, key, text, R⟩] = [.int .u32 (l.ten : Int), .int .u8 (l.k : Int), .int .u8 (l.lv : Int), .int .u32 (l.pg : Int), .int .u64 (l.cm : Int), .int .u16 (l.gn : Int), .string (strOf key), .string (strOf text), .string (strOf R)]) := Lib.hid rfl
  simp only at HS
  rw [lab_cells] at HS L0 B0 ⊢
  clear hl ik it hs hg
  go_enter Try.func16, Try.ntmps16
  go_wp2_with fail
  refine (HS.out _ (IK.out.ab B0.out) (IT.out.ab B0.out)).mono ?_
  rintro e w1 ⟨v, rfl, hv, hb⟩
  have V1 := Lib.hid (hv.lower B0.out.size)
  have B1 := Lib.hid (below_tr B0.out hb B0.out.size)
  have L1 := Lib.hid (L0.out.ab hb)
  have K1 := Lib.hid (IK.out.ab B1.out)
  have T1 := Lib.hid (IT.out.ab B1.out)
  have G1 := Lib.hid (GG.out.ab B1.out)
  clear hv hb B0 L0
  obtain ⟨A3, c3, rfl, _, _⟩ := V1.out.shape
  have I1 := Lib.hid (V1.out.isB rfl)
  go_wp2_with fail
  refine wp_wide3 [⟨23, IsR (.pointer (some ⟨g, 0, none⟩)), [], false⟩, ⟨24, IsR (.pointer (some ⟨g, 0, none⟩)), [], false⟩, ⟨25, IsR (.pointer (some ⟨g, 0, none⟩)), [1], false⟩, ⟨26, IsR (.pointer (some ⟨g, 0, none⟩)), [2], false⟩, ⟨27, IsR (.slice none 0 0), [3], false⟩, ⟨28, IsR (.agg #[.int .u32 (l.ten : Int), .int .u8 (l.k : Int), .int .u8 (l.lv : Int), .int .u32 (l.pg : Int), .int .u64 (l.cm : Int), .int .u16 (l.gn : Int)]), [], false⟩, ⟨29, IsR (.slice kA kn kc), [], false⟩, ⟨30, IsR (.string (strOf key)), [6], false⟩, ⟨31, IsR (.slice tA tn tc), [], false⟩, ⟨32, IsR (.string (strOf text)), [8], false⟩, ⟨33, IsR (.slice A3 R.length c3), [], false⟩, ⟨34, IsR (.string (strOf R)), [10], false⟩, ⟨35, IsR (.agg #[.int .u32 (l.ten : Int), .int .u8 (l.k : Int), .int .u8 (l.lv : Int), .int .u32 (l.pg : Int), .int .u64 (l.cm : Int), .int .u16 (l.gn : Int), .string (strOf key), .string (strOf text), .string (strOf R)]), [5, 7, 9, 11], false⟩, ⟨36, OneR #[.int .u32 (l.ten : Int), .int .u8 (l.k : Int), .int .u8 (l.lv : Int), .int .u32 (l.pg : Int), .int .u64 (l.cm : Int), .int .u16 (l.gn : Int), .string (strOf key), .string (strOf text), .string (strOf R)], [12], false⟩, ⟨37, RowR w1.heap.size 1 (slvs [⟨l, key, text, R⟩]), [4, 13], false⟩, ⟨38, IsR (.pointer (some ⟨g, 0, none⟩)), [0], false⟩, ⟨39, IsR (.pointer (some ⟨g, 0, none⟩)), [15], false⟩] (by kernel_rfl) (by kernel_rfl) rfl rfl rfl ⟨?_, ?_, ?_, ?_, ?_, ?_, ?_, ?_, ?_, ?_, ?_, ?_, ?_, ?_, ?_, ?_, ?_, trivial⟩ ?_
  · refine ⟨rfl, IsR.mono _, fun a W hA hb hd => takes_plain rfl (yields_value _ ?_ rfl)⟩
    have h0 : a.tmps[0]?.getD undef = .pointer (some ⟨g, 0, none⟩) := (eval_get a 0).trans ((hA.eval (by simp)).trans rfl)
    go_simp
  · refine ⟨rfl, IsR.mono _, fun a W hA hb hd => takes_plain rfl (yields_value _ ?_ rfl)⟩
    have h0 : a.tmps[0]?.getD undef = .pointer (some ⟨g, 0, none⟩) := (eval_get a 0).trans ((hA.eval (by simp)).trans rfl)
    go_simp
  · refine ⟨rfl, IsR.mono _, fun a W hA hb hd => takes_plain rfl (yields_value _ ?_ rfl)⟩
    have h24 : a.tmps[24]?.getD undef = .pointer (some ⟨g, 0, none⟩) := (eval_get a 24).trans (hd 1 (by simp) _ rfl)
    go_simp
  · refine ⟨rfl, IsR.mono _, fun a W hA hb hd => takes_plain rfl (yields_value _ ?_ rfl)⟩
    have h25 : a.tmps[25]?.getD undef = .pointer (some ⟨g, 0, none⟩) := (eval_get a 25).trans (hd 2 (by simp) _ rfl)
    go_simp
  · refine ⟨rfl, IsR.mono _, fun a W hA hb hd => takes_plain rfl (yields_value _ ?_ rfl)⟩
    have h26 : a.tmps[26]?.getD undef = .pointer (some ⟨g, 0, none⟩) := (eval_get a 26).trans (hd 3 (by simp) _ rfl)
    have hc := (G1.out.ab hb).cell (k := 0) rfl
    go_simp
  · refine ⟨rfl, IsR.mono _, fun a W hA hb hd => takes_plain rfl (yields_value _ ?_ rfl)⟩
    have h6 : a.tmps[6]?.getD undef = .pointer (some ⟨w.heap.size, 0, none⟩) := (eval_get a 6).trans ((hA.eval (by simp)).trans rfl)
    obtain ⟨x0, x1, x2, x3, x4, x5⟩ := (L1.out.ab hb).cells
    go_simp
  · refine ⟨rfl, IsR.mono _, fun a W hA hb hd => takes_plain rfl (yields_value _ ?_ rfl)⟩
    have h1 : a.tmps[1]?.getD undef = .slice kA kn kc := (eval_get a 1).trans ((hA.eval (by simp)).trans rfl)
    go_simp
  · refine ⟨rfl, IsR.mono _, fun a W hA hb hd => takes_plain rfl (yields_value _ ?_ rfl)⟩
    have h29 : a.tmps[29]?.getD undef = .slice kA kn kc := (eval_get a 29).trans (hd 6 (by simp) _ rfl)
    have hst := conv_str K1.out hb
    go_simp
  · refine ⟨rfl, IsR.mono _, fun a W hA hb hd => takes_plain rfl (yields_value _ ?_ rfl)⟩
    have h3 : a.tmps[3]?.getD undef = .slice tA tn tc := (eval_get a 3).trans ((hA.eval (by simp)).trans rfl)
    go_simp
  · refine ⟨rfl, IsR.mono _, fun a W hA hb hd => takes_plain rfl (yields_value _ ?_ rfl)⟩
    have h31 : a.tmps[31]?.getD undef = .slice tA tn tc := (eval_get a 31).trans (hd 8 (by simp) _ rfl)
    have hst := conv_str T1.out hb
    go_simp
  · refine ⟨rfl, IsR.mono _, fun a W hA hb hd => takes_plain rfl (yields_value _ ?_ rfl)⟩
    have h10 : a.tmps[10]?.getD undef = .slice A3 R.length c3 := (eval_get a 10).trans ((hA.eval (by simp)).trans rfl)
    go_simp
  · refine ⟨rfl, IsR.mono _, fun a W hA hb hd => takes_plain rfl (yields_value _ ?_ rfl)⟩
    have h33 : a.tmps[33]?.getD undef = .slice A3 R.length c3 := (eval_get a 33).trans (hd 10 (by simp) _ rfl)
    have hst := conv_str I1.out hb
    go_simp
  · refine ⟨rfl, IsR.mono _, fun a W hA hb hd => takes_plain rfl (yields_value _ ?_ rfl)⟩
    have h28 : a.tmps[28]?.getD undef = .agg #[.int .u32 (l.ten : Int), .int .u8 (l.k : Int), .int .u8 (l.lv : Int), .int .u32 (l.pg : Int), .int .u64 (l.cm : Int), .int .u16 (l.gn : Int)] := (eval_get a 28).trans (hd 5 (by simp) _ rfl)
    have h30 : a.tmps[30]?.getD undef = .string (strOf key) := (eval_get a 30).trans (hd 7 (by simp) _ rfl)
    have h32 : a.tmps[32]?.getD undef = .string (strOf text) := (eval_get a 32).trans (hd 9 (by simp) _ rfl)
    have h34 : a.tmps[34]?.getD undef = .string (strOf R) := (eval_get a 34).trans (hd 11 (by simp) _ rfl)
    go_simp
  · refine ⟨rfl, OneR.mono _, fun a W hA hb hd => takes_plain rfl ?_⟩
    have h35 : a.tmps[35]?.getD undef = .agg #[.int .u32 (l.ten : Int), .int .u8 (l.k : Int), .int .u8 (l.lv : Int), .int .u32 (l.pg : Int), .int .u64 (l.cm : Int), .int .u16 (l.gn : Int), .string (strOf key), .string (strOf text), .string (strOf R)] := (eval_get a 35).trans (hd 12 (by simp) _ rfl)
    refine .inl ⟨.slice (some ⟨W.heap.size, 0, none⟩) 1 1, W.alloc (.cells #[.int .u32 (l.ten : Int), .int .u8 (l.k : Int), .int .u8 (l.lv : Int), .int .u32 (l.pg : Int), .int .u64 (l.cm : Int), .int .u16 (l.gn : Int), .string (strOf key), .string (strOf text), .string (strOf R)] 130), ?_, ⟨_, rfl, CbB.new _ _ _⟩, (Below.refl _ _).alloc (Nat.le_refl _) _, fresh_no _ _ _⟩
    go_simp
  · refine ⟨rfl, RowR.mono _ _ _, fun a W hA hb hd => takes_plain rfl ?_⟩
    have hs : a.eval (.tmp 27) = .slice none 0 0 := hd 4 (by simp) _ rfl
    obtain ⟨GG2, he, hcb⟩ := hd 13 (by simp) _ rfl
    have hx : a.eval (.tmp 36) = .slice (some ⟨GG2, 0, none⟩) 1 1 := he
    obtain ⟨v1, W1, hrun, r1, r2, _⟩ := run_append_own (P := Try.prog) W w1.heap.size 125 125 130 i0 _ 9 80 Try.underlying125 hi0 hz0 hz1 hz2 rfl (by decide) (.slice none 0 0) 0 [] (World.ownsRow_nil _ _ _ _) ⟨GG2, 0, none⟩ 1 1 (slvs [⟨l, key, text, R⟩]) rfl (row_at hcb) (by rw [SV.out]; simp [Value.oneCell']) (by decide) (by decide) hb.size
    refine .inl ⟨v1, W1, ?_, r1, ⟨r2.os, r2.tape, r2.output, r2.size, fun k hk => r2.block k hk (by simp [Value.ownBlock])⟩, fresh_no _ _ _⟩
    unfold execOp
    simp only [resolve, invoke, builtin, Sem.run_bind, Sem.run_pure, Result.andThen_ok, List.map_toArray, List.map_cons, List.map_nil, hs, hx, hrun]
  · refine ⟨rfl, IsR.mono _, fun a W hA hb hd => takes_plain rfl (yields_value _ ?_ rfl)⟩
    have h23 : a.tmps[23]?.getD undef = .pointer (some ⟨g, 0, none⟩) := (eval_get a 23).trans (hd 0 (by simp) _ rfl)
    go_simp
  · refine ⟨rfl, IsR.mono _, fun a W hA hb hd => takes_plain rfl (yields_value _ ?_ rfl)⟩
    have h38 : a.tmps[38]?.getD undef = .pointer (some ⟨g, 0, none⟩) := (eval_get a 38).trans (hd 15 (by simp) _ rfl)
    go_simp
  intro vs2 w2 hR hF hb
  have R2 : Hid (RowR w1.heap.size 1 (slvs [⟨l, key, text, R⟩]) (vs2 37) w2) := Lib.hid (hR 14 _ rfl)
  have e23 : vs2 23 = .pointer (some ⟨g, 0, none⟩) := hR 0 _ rfl
  have e24 : vs2 24 = .pointer (some ⟨g, 0, none⟩) := hR 1 _ rfl
  have e25 : vs2 25 = .pointer (some ⟨g, 0, none⟩) := hR 2 _ rfl
  have e26 : vs2 26 = .pointer (some ⟨g, 0, none⟩) := hR 3 _ rfl
  have e27 : vs2 27 = .slice none 0 0 := hR 4 _ rfl
  have e28 : vs2 28 = .agg #[.int .u32 (l.ten : Int), .int .u8 (l.k : Int), .int .u8 (l.lv : Int), .int .u32 (l.pg : Int), .int .u64 (l.cm : Int), .int .u16 (l.gn : Int)] := hR 5 _ rfl
  have e29 : vs2 29 = .slice kA kn kc := hR 6 _ rfl
  have e30 : vs2 30 = .string (strOf key) := hR 7 _ rfl
  have e31 : vs2 31 = .slice tA tn tc := hR 8 _ rfl
  have e32 : vs2 32 = .string (strOf text) := hR 9 _ rfl
  have e33 : vs2 33 = .slice A3 R.length c3 := hR 10 _ rfl
  have e34 : vs2 34 = .string (strOf R) := hR 11 _ rfl
  have e35 : vs2 35 = .agg #[.int .u32 (l.ten : Int), .int .u8 (l.k : Int), .int .u8 (l.lv : Int), .int .u32 (l.pg : Int), .int .u64 (l.cm : Int), .int .u16 (l.gn : Int), .string (strOf key), .string (strOf text), .string (strOf R)] := hR 12 _ rfl
  have e38 : vs2 38 = .pointer (some ⟨g, 0, none⟩) := hR 15 _ rfl
  have e39 : vs2 39 = .pointer (some ⟨g, 0, none⟩) := hR 16 _ rfl
  simp only [List.map_cons, List.map_nil, List.foldl_cons, List.foldl_nil, List.length_cons, List.length_nil, List.drop_succ_cons, List.drop_zero, Act.put, List.setIfInBounds_toArray, List.set_cons_zero, List.set_cons_succ, e23, e24, e25, e26, e27, e28, e29, e30, e31, e32, e33, e34, e35, e38, e39]
  have B2 := Lib.hid (below_tr B1.out hb B1.out.size)
  have G2 := Lib.hid (G1.out.ab hb)
  have V2 := Lib.hid (V1.out.ab hb)
  have S2 := Lib.hid hb.size
  clear hR hF hb e23 e24 e25 e26 e27 e28 e29 e30 e31 e32 e33 e34 e35 e38 e39
  generalize vs2 36 = q36 at *
  generalize vs2 37 = q37 at *
  have hc := G2.out.cell (k := 0) rfl
  have hf := G2.out.free 0
  obtain ⟨A7, c7, rfl⟩ := row_shape R2.out
  go_wp2_with fail
  go_ret2
  have hgw : g < w.heap.size := GG.out.lt
  have hne : (Value.slice A3 R.length c3).ownBlock ≠ some g := fun e => by
    have := (V2.out.lt g e).1
    omega
  have hq : (Value.slice A7 1 c7).ownBlock = none ∨ (Value.slice A7 1 c7).ownBlock ≠ some g := by
    by_cases h : (Value.slice A7 1 c7).ownBlock = some g
    · have := own_ge9 R2.out g h
      have := B1.out.size
      omega
    · exact .inr h
  refine ⟨_, rfl, OwB.grown V2.out (grown_cell _ _ _ _) hne, grown_tr (grown_of B2.out _) (grown_cell _ _ _ _), Nat.le_trans B2.out.size (by simp), _, G2.out.set 0 (.slice A7 1 c7), ?_⟩
  exact (row_low R2.out B1.out.size).kept (grown_cell _ _ _ _) hq
end Go.Proofs.Ytmeakfocppooiaa
