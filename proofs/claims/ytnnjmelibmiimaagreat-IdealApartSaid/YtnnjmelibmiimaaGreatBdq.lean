/-
  IDEAL: Do: the walks.
-/
import Derived.Test.YtnnjmelibmiimaaGreatBdm
import Derived.Shelf.SlicesE.DeleteFunc
import Derived.Shelf.SlicesG.ReverseS
import Derived.Shelf.SlIter.Sorted
import Derived.Shelf.SlIter.Collect
import Derived.Shelf.SortM.Plain
import Derived.Shelf.SortM.SortNone
import Derived.Test.YtnnjmelibmiimaaGreatProg
import Derived.Lib.OwnBridge
import Derived.Sort.Walk0
namespace Go.Proofs.YtnnjmelibmiimaaGreat
open Go.RowKit
set_option linter.unusedVariables false
set_option linter.unusedSimpArgs false

theorem row_frX {w w' : World} {B n s g : Nat} {e : TypeId} {v : Value} {xs : List Value} (h : w.ownsRow B e s v n xs) (k : Fr w w' (fun q => q = g)) (hg : g < B) : w'.ownsRow B e s v n xs := by
  refine row_fr h k fun q hq e1 => ?_
  rcases h.2 with ⟨rfl, _⟩ | ⟨g', cap, cur, rfl, hb, _⟩
  · cases hq
  · simp only [Value.ownBlock, Option.some.injEq] at hq
    omega
theorem OwB.frX {w w' : World} {B g : Nat} {v : Value} {l : List Nat} (h : OwB w B v l) (k : Fr w w' (fun q => q = g)) (hg : g < B) : OwB w' B v l := h.fr k fun q hq e => by have := h.lt q hq; omega
theorem KyB.frX {w w' : World} {B g : Nat} {v : Value} {l : List Nat} (h : KyB w B v l) (k : Fr w w' (fun q => q = g)) (hg : g < B) : KyB w' B v l := by
  obtain ⟨g', n, cap, cs, fr, rfl, h1, h2, h3⟩ := h
  exact ⟨g', n, cap, cs, fr, rfl, h1, (k.block g' (lt_of_block h2) (by omega)).trans h2, isB_frZ h3 k fun hn x e => by injection e with e; rw [← e]; show ¬ g' = g; omega⟩
theorem KyB.lower {w : World} {B B' : Nat} {v : Value} {l : List Nat} (h : KyB w B v l) (hB : B' ≤ B) : KyB w B' v l := by
  obtain ⟨g', n, cap, cs, fr, rfl, h1, h2⟩ := h
  exact ⟨g', n, cap, cs, fr, rfl, Nat.le_trans hB h1, h2⟩
/-- an answer stands where a block ahead of it is written -/
theorem AnsB.frX {w w' : World} {C g : Nat} {O : Tg} {cs : Array Value} {a : AnsP} (h : AnsB w C O cs a) (k : Fr w w' (fun q => q = g)) (hg : g < C) : AnsB w' C O cs a := by
  obtain ⟨⟨v, p, l, rfl, h1, h2, ⟨vs, p1, p2, p3, p4⟩, h4, h5⟩⟩ := h
  exact ⟨⟨v, p, l, rfl, h1.frX k hg, h2, ⟨vs, row_frX p1 k hg, p2, p3, fun i x y hx hy => by
    obtain ⟨⟨kk, q1, q2⟩, q3, q4, q5⟩ := p4 i x y hx hy
    exact ⟨⟨kk, q1.frX k hg, q2⟩, q3.frX k hg, q4, q5⟩⟩, row_frX h4 k hg, h5⟩⟩
theorem AnsB.lower {w : World} {C C' : Nat} {O : Tg} {cs : Array Value} {a : AnsP} (h : AnsB w C O cs a) (hC : C' ≤ C) : AnsB w C' O cs a := by
  obtain ⟨⟨v, p, l, rfl, h1, h2, ⟨vs, p1, p2, p3, p4⟩, h4, h5⟩⟩ := h
  exact ⟨⟨v, p, l, rfl, h1.lower hC, h2, ⟨vs, row_low p1 hC, p2, p3, fun i x y hx hy => by
    obtain ⟨⟨kk, q1, q2⟩, q3, q4, q5⟩ := p4 i x y hx hy
    exact ⟨⟨kk, q1.lower hC, q2⟩, q3.lower hC, q4, q5⟩⟩, row_low h4 hC, h5⟩⟩
theorem row_sl {w : World} {B n s : Nat} {e : TypeId} {v : Value} {xs : List Value} (h : w.ownsRow B e s v n xs) : ∃ A m c, v = .slice A m c := by
  rcases h.2 with ⟨rfl, _⟩ | ⟨g', cap, cur, rfl, _⟩
  · exact ⟨_, _, _, rfl⟩
  · exact ⟨_, _, _, rfl⟩
theorem AnsB.one {w : World} {C : Nat} {O : Tg} {cs : Array Value} {a : AnsP} (h : AnsB w C O cs a) : cs.size = 7 ∧ cs.all (·.oneCell') = true := by
  obtain ⟨⟨v, p, l, rfl, h1, h2, ⟨vs, p1, p2, p3, p4⟩, h4, h5⟩⟩ := h
  refine ⟨rfl, ?_⟩
  obtain ⟨A1, n1, c1, rfl⟩ := row_sl h1.own
  obtain ⟨A2, n2, c2, rfl⟩ := row_sl p1
  obtain ⟨A3, n3, c3, rfl⟩ := row_sl h4
  simp [Value.oneCell']
theorem szAnsX {cs : Array Value} (h : cs.size = 7) : (Tryz.prog.info? 40).map (·.size) = some cs.size := by rw [h]; exact szAns
theorem eq_fn0 (W : World) : (binOp .eql 70 .nilFunc .nilFunc).run Tryz.prog W = .ok (.bool true) W := by
  have h : (Op.equalIn 10000 70 .nilFunc .nilFunc).run Tryz.prog W = .ok true W := by
    unfold Op.equalIn
    simp [run_underlying Tryz.underlying70, Result.andThen]
  simp only [binOp, Op.equal, Op.maxDepth, Sem.run_bind, h, Result.andThen_ok, Sem.run_pure]
theorem eq_fn1 (g : Nat) (W : World) : (binOp .eql 70 (.func (.func g) #[] #[]) .nilFunc).run Tryz.prog W = .ok (.bool false) W := by
  have h : (Op.equalIn 10000 70 (.func (.func g) #[] #[]) .nilFunc).run Tryz.prog W = .ok false W := by
    unfold Op.equalIn
    simp [run_underlying Tryz.underlying70, Result.andThen]
  simp only [binOp, Op.equal, Op.maxDepth, Sem.run_bind, h, Result.andThen_ok, Sem.run_pure]

section
variable {w : World} {O : Tg} {s blocks m : Nat} {T : List TnP} {bs : List (Nat × TnP)} {c : CallP}
set_option maxRecDepth 100000 in
set_option maxHeartbeats 4000000 in
theorem do_of (fid : Nat) (h : IdM w O s blocks T m bs) (hk : ckOk c.kind) (hl : lookL c.kind howL = some (.func (.func fid) #[] #[])) (eg : ∀ args w, (callFunc fid args).run Tryz.prog w = .ok (.enter fid args) w) (a : AnsP) (T2 : List TnP) (hcall : ∀ W, Below w.heap.size w W → IdM W (cutTg O w.heap.size) s blocks T m bs → Calls Tryz.prog fid #[.pointer (some ⟨s, 0, none⟩), .agg c.cs] W (DoR s blocks W (cutTg O w.heap.size) a T2)) :
    Calls Tryz.prog 10 #[.pointer (some ⟨s, 0, none⟩), .agg c.cs] w (DoR s blocks w O a T2) := by
  have ha : Below w.heap.size w ((w.alloc (.cells #[.int .i64 c.kind, .int .u32 (c.ten : Int), .slice c.sec.A c.sec.n c.sec.c, .int .i64 c.quota, .int .i64 c.n, .int .u64 (c.hd : Int), .int .u64 (c.oth : Int), .int .u64 (c.sn : Int), .int .u8 (c.rt : Int), .slice c.oA c.oN c.oC, .slice c.key.A c.key.n c.key.c, .slice c.frm.A c.frm.n c.frm.c, .slice c.upto.A c.upto.n c.upto.c, .bool c.back] 36)).alloc (.cells #[.int .i64 0, .int .u64 0, .int .u64 0, .slice none 0 0, .slice none 0 0, .int .i64 0, .slice none 0 0] 40)) := ((Below.refl _ _).alloc (Nat.le_refl _) _).alloc (by simp) _
  have hcb : CbB ((w.alloc (.cells #[.int .i64 c.kind, .int .u32 (c.ten : Int), .slice c.sec.A c.sec.n c.sec.c, .int .i64 c.quota, .int .i64 c.n, .int .u64 (c.hd : Int), .int .u64 (c.oth : Int), .int .u64 (c.sn : Int), .int .u8 (c.rt : Int), .slice c.oA c.oN c.oC, .slice c.key.A c.key.n c.key.c, .slice c.frm.A c.frm.n c.frm.c, .slice c.upto.A c.upto.n c.upto.c, .bool c.back] 36)).alloc (.cells #[.int .i64 0, .int .u64 0, .int .u64 0, .slice none 0 0, .slice none 0 0, .int .i64 0, .slice none 0 0] 40)) w.heap.size 36 c.cs := (CbB.new w _ _).ab ((Below.refl _ _).alloc (Nat.le_refl _) _)
  have hqb : CbB ((w.alloc (.cells #[.int .i64 c.kind, .int .u32 (c.ten : Int), .slice c.sec.A c.sec.n c.sec.c, .int .i64 c.quota, .int .i64 c.n, .int .u64 (c.hd : Int), .int .u64 (c.oth : Int), .int .u64 (c.sn : Int), .int .u8 (c.rt : Int), .slice c.oA c.oN c.oC, .slice c.key.A c.key.n c.key.c, .slice c.frm.A c.frm.n c.frm.c, .slice c.upto.A c.upto.n c.upto.c, .bool c.back] 36)).alloc (.cells #[.int .i64 0, .int .u64 0, .int .u64 0, .slice none 0 0, .slice none 0 0, .int .i64 0, .slice none 0 0] 40)) (w.heap.size + 1) 40 (ansE 0) := CbB.newI (by simp)
  unfold CallP.cs at hcb ⊢
  go_enter Tryz.func10, Tryz.ntmps10
  go_upto_region 1 with (fail)
  obtain ⟨w0, hw0⟩ : ∃ w0, ((w.alloc (.cells #[.int .i64 c.kind, .int .u32 (c.ten : Int), .slice c.sec.A c.sec.n c.sec.c, .int .i64 c.quota, .int .i64 c.n, .int .u64 (c.hd : Int), .int .u64 (c.oth : Int), .int .u64 (c.sn : Int), .int .u8 (c.rt : Int), .slice c.oA c.oN c.oC, .slice c.key.A c.key.n c.key.c, .slice c.frm.A c.frm.n c.frm.c, .slice c.upto.A c.upto.n c.upto.c, .bool c.back] 36)).alloc (.cells #[.int .i64 0, .int .u64 0, .int .u64 0, .slice none 0 0, .slice none 0 0, .int .i64 0, .slice none 0 0] 40)) = w0 := ⟨_, rfl⟩
  rw [hw0] at ha hcb hqb ⊢
  clear hw0
  have HA := Lib.hid ha
  have HQ := Lib.hid hqb
  have HB := Lib.hid hcb
  have M0 := h.stp (Stp.cut ha (fun _ => False)) fun _ h => h
  have HM := Lib.hid M0
  have c0 := hcb.cell (k := 0) rfl
  have HN := Lib.hid (none_no s m _ w0 M0.box)
  have HW := Lib.hid fun W => how_any c.kind hk W
  rw [hl] at HW
  have HCL := Lib.hid hcall
  have HEG := Lib.hid eg
  have hq := fun W => eq_fn1 fid W
  clear h ha hqb hcb hk hl hcall eg M0
  go_wp2_with fail
  refine HN.out.mono ?_
  rintro e w1 ⟨rfl, rfl⟩
  go_wp2_with fail
  refine (HW.out _).mono ?_
  rintro e w1 ⟨rfl, hb⟩
  have B1 := Lib.hid hb
  have BB1 := Lib.hid (below_tr HA.out hb HA.out.size)
  have M1 := Lib.hid (HM.out.stp (Stp.of hb (fun _ => False) fun _ _ => rfl) fun _ h => h)
  have Q1 := Lib.hid (HQ.out.ab hb)
  have X1 := HB.out.ab hb
  have x0 : w1.cell? ⟨w.heap.size, 0, none⟩ = some (.int .i64 c.kind) := X1.cell (k := 0) rfl
  have x1 : w1.cell? ⟨w.heap.size, 1, none⟩ = some (.int .u32 (c.ten : Int)) := X1.cell (k := 1) rfl
  have x2 : w1.cell? ⟨w.heap.size, 2, none⟩ = some (.slice c.sec.A c.sec.n c.sec.c) := X1.cell (k := 2) rfl
  have x3 : w1.cell? ⟨w.heap.size, 3, none⟩ = some (.int .i64 c.quota) := X1.cell (k := 3) rfl
  have x4 : w1.cell? ⟨w.heap.size, 4, none⟩ = some (.int .i64 c.n) := X1.cell (k := 4) rfl
  have x5 : w1.cell? ⟨w.heap.size, 5, none⟩ = some (.int .u64 (c.hd : Int)) := X1.cell (k := 5) rfl
  have x6 : w1.cell? ⟨w.heap.size, 6, none⟩ = some (.int .u64 (c.oth : Int)) := X1.cell (k := 6) rfl
  have x7 : w1.cell? ⟨w.heap.size, 7, none⟩ = some (.int .u64 (c.sn : Int)) := X1.cell (k := 7) rfl
  have x8 : w1.cell? ⟨w.heap.size, 8, none⟩ = some (.int .u8 (c.rt : Int)) := X1.cell (k := 8) rfl
  have x9 : w1.cell? ⟨w.heap.size, 9, none⟩ = some (.slice c.oA c.oN c.oC) := X1.cell (k := 9) rfl
  have x10 : w1.cell? ⟨w.heap.size, 10, none⟩ = some (.slice c.key.A c.key.n c.key.c) := X1.cell (k := 10) rfl
  have x11 : w1.cell? ⟨w.heap.size, 11, none⟩ = some (.slice c.frm.A c.frm.n c.frm.c) := X1.cell (k := 11) rfl
  have x12 : w1.cell? ⟨w.heap.size, 12, none⟩ = some (.slice c.upto.A c.upto.n c.upto.c) := X1.cell (k := 12) rfl
  have x13 : w1.cell? ⟨w.heap.size, 13, none⟩ = some (.bool c.back) := X1.cell (k := 13) rfl
  have HCC := Lib.hid (HCL.out w1 BB1.out M1.out)
  unfold CallP.cs at HCC
  clear hb HW HN HM HQ c0 X1
  go_upto_region 6 with (fail)
  go_wp2_with fail
  rw [HEG.out]
  simp only [Oper.upon]
  refine HCC.out.mono ?_
  rintro e w2 ⟨cs2, O2, rfl, an, ib, st⟩
  have N1 : Hid (w.heap.size + 1 < w1.heap.size) := Lib.hid Q1.out.lt
  have one := an.one
  have Q2 := Lib.hid (show CbB w2 (w.heap.size + 1) 40 (ansE 0) from (st.ot N1.out (cutTg_at (Nat.le_succ _)) (fun e => by have := M1.out.pos; simp at e; omega)).1.trans Q1.out)
  have TG : Hid (O2 (w.heap.size + 1) = some (0, 0)) := Lib.hid ((st.tg _ N1.out).trans (cutTg_at (Nat.le_succ _)))
  have AN := Lib.hid an
  have IB := Lib.hid ib
  have ST : Hid (Stp (fun τ => τ.1 = s) w O w2 O2) := Lib.hid (((Stp.cut BB1.out _)).tr st)
  have N0 : Hid (w.heap.size ≤ w1.heap.size) := Lib.hid BB1.out.size
  have SZ := Lib.hid one.1
  have ON := Lib.hid one.2
  clear an ib st one HCC HCL x0 x1 x2 x3 x4 x5 x6 x7 x8 x9 x10 x11 x12 x13
  go_wp2_with (first
    | (with_reducible refine wpList_storeC (o := ⟨none, .store _ (.tmp 4) (.tmp 18), _, _, _, _⟩) ?_ 40 (.tmp 4) (.tmp 18) ?_ (w.heap.size + 1) ?_ (cs2) ?_ (cs := ansE 0) (t := 40) Q2.out (szAnsX SZ.out) ?_ ON.out ?_
       · rfl
       · rfl
       · rfl
       · rfl
       · exact SZ.out.symm
       intro wz hwz
       have QZ : Hid (CbB wz (w.heap.size + 1) 40 (cs2)) := Lib.hid (by rw [hwz]; exact CbB.row Q2.out _)
       have FZ : Hid (Fr w2 wz (fun k => k = (w.heap.size + 1))) := Lib.hid (by rw [hwz]; exact fr_rowX _ _ _)
       clear hwz))
  refine bodyPost_ret (ans_results Tryz.results10 _ _ (w.heap.size + 1) (cs2) rfl QZ.out SZ.out) rfl ?_
  obtain ⟨mz, bz, MZ⟩ := IB.out
  exact ⟨cs2, O2, rfl, (AN.out.frX FZ.out N1.out).lower N0.out, ⟨mz, bz, MZ.stp (Stp.box FZ.out TG.out) fun i e => by have := M1.out.pos; simp at e; omega⟩, ST.out.fresh FZ.out (Nat.le_succ _)⟩
end
end Go.Proofs.YtnnjmelibmiimaaGreat
namespace Go.Proofs.YtnnjmelibmiimaaGreat
open Go.Shelf Go.Proofs
def lyDel_ren : Go.Shelf.Ren := ⟨fun | 10 => 89 | 6 => 116 | n => n, fun | 22 => 96 | 23 => 9 | 25 => 147 | 3 => 3 | 4 => 4 | 0 => 0 | n => n, fun | n => n⟩
theorem lyDel : Go.Proofs.SlLaysH.n10 Tryz.prog lyDel_ren := {
  mixed := by kernel_rfl
  f6 := ⟨Tryz.f116.name, by decide, Tryz.func116.trans (congrArg some (by kernel_rfl))⟩
  f10 := ⟨Tryz.f89.name, by decide, Tryz.func89.trans (congrArg some (by kernel_rfl))⟩
  t0 := Tryz.underlying0
  a0 := Tryz.isAgg0
  z0 := Tryz.sizeOf0
  v0 := Tryz.zeroValue0
  t3 := Tryz.underlying3
  a3 := Tryz.isAgg3
  z3 := Tryz.sizeOf3
  v3 := Tryz.zeroValue3
  t4 := Tryz.underlying4
  a4 := Tryz.isAgg4
  z4 := Tryz.sizeOf4
  v4 := Tryz.zeroValue4
  t22 := Tryz.underlying96
  a22 := Tryz.isAgg96
  z22 := Tryz.sizeOf96
  v22 := Tryz.zeroValue96
  a23 := Tryz.isAgg9
  z23 := Tryz.sizeOf9
  t25 := Tryz.underlying147
  a25 := Tryz.isAgg147
  z25 := Tryz.sizeOf147
  v25 := Tryz.zeroValue147 }
def lyRev_ren : Go.Shelf.Ren := ⟨fun | 36 => 91 | n => n, fun | 25 => 96 | 26 => 9 | 3 => 3 | 4 => 4 | 0 => 0 | n => n, fun | n => n⟩
theorem lyRev : Go.Proofs.SlLaysN.n36 Tryz.prog lyRev_ren := {
  mixed := by kernel_rfl
  f36 := ⟨Tryz.f91.name, by decide, Tryz.func91.trans (congrArg some (by kernel_rfl))⟩
  t0 := Tryz.underlying0
  a0 := Tryz.isAgg0
  z0 := Tryz.sizeOf0
  v0 := Tryz.zeroValue0
  t3 := Tryz.underlying3
  a3 := Tryz.isAgg3
  z3 := Tryz.sizeOf3
  v3 := Tryz.zeroValue3
  t4 := Tryz.underlying4
  a4 := Tryz.isAgg4
  z4 := Tryz.sizeOf4
  v4 := Tryz.zeroValue4
  t25 := Tryz.underlying96
  a25 := Tryz.isAgg96
  z25 := Tryz.sizeOf96
  v25 := Tryz.zeroValue96
  t26 := Tryz.underlying9
  a26 := Tryz.isAgg9
  z26 := Tryz.sizeOf9
  v26 := Tryz.zeroValue9 }
def lySort_ren : Go.Shelf.Ren := ⟨fun | 6 => 101 | 8 => 125 | 9 => 124 | 19 => 139 | 20 => 140 | 21 => 130 | 22 => 131 | 23 => 132 | 24 => 133 | 25 => 134 | 26 => 135 | 27 => 136 | 28 => 137 | 29 => 138 | 36 => 151 | 31 => 152 | 32 => 153 | 37 => 154 | 38 => 155 | 39 => 156 | 41 => 161 | n => n, fun | 27 => 96 | 29 => 9 | 3 => 3 | 32 => 72 | 26 => 96 | 0 => 0 | 44 => 22 | 46 => 32 | 4 => 4 | 36 => 189 | 35 => 188 | 41 => 194 | 5 => 5 | 9 => 9 | 53 => 205 | 57 => 209 | 63 => 213 | 64 => 214 | n => n, fun | n => n⟩
theorem lySort : Go.Proofs.SlLaysM.n6 Tryz.prog lySort_ren := {
  mixed := by kernel_rfl
  f6 := ⟨Tryz.f101.name, by decide, Tryz.func101.trans (congrArg some (by kernel_rfl))⟩
  f8 := Tryz.func125.trans (congrArg some (by kernel_rfl))
  f9 := ⟨Tryz.f124.name, by decide, Tryz.func124.trans (congrArg some (by kernel_rfl))⟩
  f19 := Tryz.func139.trans (congrArg some (by kernel_rfl))
  f20 := Tryz.func140.trans (congrArg some (by kernel_rfl))
  f21 := ⟨Tryz.f130.name, by decide, Tryz.func130.trans (congrArg some (by kernel_rfl))⟩
  f22 := ⟨Tryz.f131.name, by decide, Tryz.func131.trans (congrArg some (by kernel_rfl))⟩
  f23 := ⟨Tryz.f132.name, by decide, Tryz.func132.trans (congrArg some (by kernel_rfl))⟩
  f24 := ⟨Tryz.f133.name, by decide, Tryz.func133.trans (congrArg some (by kernel_rfl))⟩
  f25 := ⟨Tryz.f134.name, by decide, Tryz.func134.trans (congrArg some (by kernel_rfl))⟩
  f26 := ⟨Tryz.f135.name, by decide, Tryz.func135.trans (congrArg some (by kernel_rfl))⟩
  f27 := ⟨Tryz.f136.name, by decide, Tryz.func136.trans (congrArg some (by kernel_rfl))⟩
  f28 := ⟨Tryz.f137.name, by decide, Tryz.func137.trans (congrArg some (by kernel_rfl))⟩
  f29 := ⟨Tryz.f138.name, by decide, Tryz.func138.trans (congrArg some (by kernel_rfl))⟩
  f31 := Tryz.func152.trans (congrArg some (by kernel_rfl))
  f32 := Tryz.func153.trans (congrArg some (by kernel_rfl))
  f36 := ⟨Tryz.f151.name, by decide, Tryz.func151.trans (congrArg some (by kernel_rfl))⟩
  f37 := ⟨Tryz.f154.name, by decide, Tryz.func154.trans (congrArg some (by kernel_rfl))⟩
  f38 := ⟨Tryz.f155.name, by decide, Tryz.func155.trans (congrArg some (by kernel_rfl))⟩
  f39 := ⟨Tryz.f156.name, by decide, Tryz.func156.trans (congrArg some (by kernel_rfl))⟩
  f41 := ⟨Tryz.f161.name, by decide, Tryz.func161.trans (congrArg some (by kernel_rfl))⟩
  t0 := Tryz.underlying0
  a0 := Tryz.isAgg0
  z0 := Tryz.sizeOf0
  v0 := Tryz.zeroValue0
  t3 := Tryz.underlying3
  a3 := Tryz.isAgg3
  z3 := Tryz.sizeOf3
  v3 := Tryz.zeroValue3
  t4 := Tryz.underlying4
  a4 := Tryz.isAgg4
  z4 := Tryz.sizeOf4
  v4 := Tryz.zeroValue4
  t5 := Tryz.underlying5
  a5 := Tryz.isAgg5
  z5 := Tryz.sizeOf5
  v5 := Tryz.zeroValue5
  t9 := Tryz.underlying9
  a9 := Tryz.isAgg9
  z9 := Tryz.sizeOf9
  v9 := Tryz.zeroValue9
  t26 := Tryz.underlying96
  a26 := Tryz.isAgg96
  z26 := Tryz.sizeOf96
  v26 := Tryz.zeroValue96
  t27 := Tryz.underlying96
  a27 := Tryz.isAgg96
  z27 := Tryz.sizeOf96
  v27 := Tryz.zeroValue96
  t29 := Tryz.underlying9
  a29 := Tryz.isAgg9
  z29 := Tryz.sizeOf9
  v29 := Tryz.zeroValue9
  t32 := Tryz.underlying72
  a32 := Tryz.isAgg72
  z32 := Tryz.sizeOf72
  v32 := Tryz.zeroValue72
  t35 := Tryz.underlying188
  a35 := Tryz.isAgg188
  z35 := Tryz.sizeOf188
  v35 := Tryz.zeroValue188
  t36 := Tryz.underlying189
  a36 := Tryz.isAgg189
  z36 := Tryz.sizeOf189
  v36 := Tryz.zeroValue189
  t41 := Tryz.underlying194
  a41 := Tryz.isAgg194
  z41 := Tryz.sizeOf194
  v41 := Tryz.zeroValue194
  t44 := Tryz.underlying22
  a44 := Tryz.isAgg22
  z44 := Tryz.sizeOf22
  v44 := Tryz.zeroValue22
  t46 := Tryz.underlying32
  a46 := Tryz.isAgg32
  z46 := Tryz.sizeOf32
  v46 := Tryz.zeroValue32
  t53 := Tryz.underlying205
  a53 := Tryz.isAgg205
  z53 := Tryz.sizeOf205
  v53 := Tryz.zeroValue205
  t57 := Tryz.underlying209
  a57 := Tryz.isAgg209
  z57 := Tryz.sizeOf209
  v57 := Tryz.zeroValue209
  t63 := Tryz.underlying213
  a63 := Tryz.isAgg213
  z63 := Tryz.sizeOf213
  v63 := Tryz.zeroValue213
  t64 := Tryz.underlying214
  a64 := Tryz.isAgg214
  z64 := Tryz.sizeOf214
  v64 := Tryz.zeroValue214 }
def lySorted_ren : Go.Shelf.Ren := ⟨fun | 6 => 71 | 8 => 100 | 9 => 101 | 11 => 123 | 13 => 125 | 12 => 124 | 23 => 139 | 24 => 140 | 14 => 130 | 15 => 131 | 16 => 132 | 17 => 133 | 18 => 134 | 19 => 135 | 20 => 136 | 21 => 137 | 22 => 138 | 25 => 151 | 26 => 152 | 27 => 153 | 28 => 154 | 29 => 155 | 30 => 156 | 31 => 161 | n => n, fun | 26 => 9 | 28 => 128 | 24 => 96 | 0 => 0 | 3 => 3 | 37 => 72 | 48 => 22 | 50 => 32 | 4 => 4 | 40 => 189 | 39 => 188 | 45 => 194 | 5 => 5 | 9 => 9 | 51 => 205 | 55 => 209 | 57 => 213 | 58 => 214 | 33 => 147 | n => n, fun | n => n⟩
theorem lySorted : Go.Proofs.SlLaysZ.n6 Tryz.prog lySorted_ren := {
  mixed := by kernel_rfl
  f6 := ⟨Tryz.f71.name, by decide, Tryz.func71.trans (congrArg some (by kernel_rfl))⟩
  f8 := ⟨Tryz.f100.name, by decide, Tryz.func100.trans (congrArg some (by kernel_rfl))⟩
  f11 := ⟨Tryz.f123.name, by decide, Tryz.func123.trans (congrArg some (by kernel_rfl))⟩
  t0 := Tryz.underlying0
  a0 := Tryz.isAgg0
  z0 := Tryz.sizeOf0
  v0 := Tryz.zeroValue0
  t24 := Tryz.underlying96
  a24 := Tryz.isAgg96
  z24 := Tryz.sizeOf96
  v24 := Tryz.zeroValue96
  t26 := Tryz.underlying9
  a26 := Tryz.isAgg9
  z26 := Tryz.sizeOf9
  v26 := Tryz.zeroValue9
  t28 := Tryz.underlying128
  a28 := Tryz.isAgg128
  z28 := Tryz.sizeOf128
  v28 := Tryz.zeroValue128
  i26 := by kernel_rfl }
def lyKeys_ren : Go.Shelf.Ren := ⟨fun | 7 => 72 | 10 => 102 | n => n, fun | 23 => 78 | 26 => 9 | 3 => 31 | 28 => 128 | 0 => 0 | 27 => 127 | 33 => 147 | 4 => 4 | n => n, fun | n => n⟩
theorem lyKeys : Go.Proofs.SlLaysZ.n7 Tryz.prog lyKeys_ren := {
  mixed := by kernel_rfl
  f7 := ⟨Tryz.f72.name, by decide, Tryz.func72.trans (congrArg some (by kernel_rfl))⟩
  f10 := ⟨Tryz.f102.name, by decide, Tryz.func102.trans (congrArg some (by kernel_rfl))⟩
  t0 := Tryz.underlying0
  a0 := Tryz.isAgg0
  z0 := Tryz.sizeOf0
  v0 := Tryz.zeroValue0
  t4 := Tryz.underlying4
  a4 := Tryz.isAgg4
  z4 := Tryz.sizeOf4
  v4 := Tryz.zeroValue4
  t23 := Tryz.underlying78
  a23 := Tryz.isAgg78
  z23 := Tryz.sizeOf78
  v23 := Tryz.zeroValue78
  t26 := Tryz.underlying9
  a26 := Tryz.isAgg9
  z26 := Tryz.sizeOf9
  v26 := Tryz.zeroValue9
  t27 := Tryz.underlying127
  a27 := Tryz.isAgg127
  z27 := Tryz.sizeOf127
  v27 := Tryz.zeroValue127
  t28 := Tryz.underlying128
  a28 := Tryz.isAgg128
  z28 := Tryz.sizeOf128
  v28 := Tryz.zeroValue128
  t33 := Tryz.underlying147
  a33 := Tryz.isAgg147
  z33 := Tryz.sizeOf147
  v33 := Tryz.zeroValue147 }
end Go.Proofs.YtnnjmelibmiimaaGreat
namespace Go.Proofs.YtnnjmelibmiimaaGreat
open Go.RowKit Go.Shelf Go.Maps Go.Sort
set_option linter.unusedVariables false
set_option linter.unusedSimpArgs false

def anyR {H : Type} (v : Value) : Option (DataW H × List MemPlace) := some (.lit (.bool true), [])
theorem key_str {k : Ky} (h : kyOk k) : keyOf Tryz.prog 9 (encStr k) = some (.string k) := by
  have hs : (⟨k.toArray⟩ : ByteArray).size = k.length := by show k.toArray.size = k.length; simp
  have := WideMaps.keyOf_string_mk (P := Tryz.prog) (k := 9) Tryz.underlying9 (s := ⟨k.toArray⟩) (by rw [hs]; unfold kyOk at h; exact Nat.le_trans h (by decide))
  simpa [encStr] using this
section
variable {w : World} {b : Nat} {l : List (Ky × Value)}
theorem MapB.owns {H : Type} (h : MapB encStr kyOk w b l) (hl : l.length ≤ 100000) : ∃ D : DataW H, w.ownsMap Tryz.prog 9 anyR b l.length D ∧ (l.map (·.1)).Perm (strKeys D) ∧ Maps.size D = l.length := by
  obtain ⟨es, clock, h1, h2, h3, h4⟩ := id h
  have hr : ∀ y ∈ es.toList, ∃ p ∈ l, y.key = encStr p.1 ∧ Go.WideElems.rd Tryz.prog 9 (anyR (H := H)) y = some (.string p.1, .lit (.bool true)) := fun y hy => by
    obtain ⟨p, hp, hk, _⟩ := prs_mem h3 hy
    refine ⟨p, hp, hk, ?_⟩
    unfold Go.WideElems.rd
    rw [hk, key_str (h4 p hp)]
    rfl
  have hsz := prs_len h3
  have hown : w.ownsMap Tryz.prog 9 (anyR (H := H)) b l.length (.map ((es.toList.map (Go.WideElems.rg Tryz.prog 9 anyR)).foldr DataW.insert [])) :=
    ⟨es, clock, h1, ⟨by rw [hsz]; exact Nat.le_trans hl (by decide), h2, fun y hy => by obtain ⟨p, _, _, e⟩ := hr y hy; exact ⟨_, e⟩⟩, Nat.le_of_eq hsz, rfl⟩
  have hC : Collected (DataW.map ((es.toList.map (Go.WideElems.rg Tryz.prog 9 (anyR (H := H)))).foldr DataW.insert [])) (fun _ => false) (l.map (·.1)) := by
    refine ⟨h.nodup ky_K, fun x => ?_⟩
    rw [has_eq, List.any_eq_true]
    constructor
    · intro hx
      obtain ⟨p, hp, rfl⟩ := List.mem_map.1 hx
      obtain ⟨y, hy, hk, _⟩ := prs_mem' h3 hp
      obtain ⟨p', hp', hk', e⟩ := hr y hy
      have : p'.1 = p.1 := encStr_inj (hk'.symm.trans hk)
      refine ⟨⟨_, mem_sorted.2 (List.mem_map.2 ⟨y, hy, Go.WideElems.rg_of e⟩), ?_⟩, rfl⟩
      rw [this]
      simp [Lit.sameKey]
    · rintro ⟨⟨q, hq, hs⟩, _⟩
      obtain ⟨y, hy, rfl⟩ := List.mem_map.1 (mem_sorted.1 hq)
      obtain ⟨p', hp', hk', e⟩ := hr y hy
      rw [Go.WideElems.rg_of e] at hs
      simp only [Lit.sameKey] at hs
      exact List.mem_map.2 ⟨p', hp', by simpa using hs⟩
  refine ⟨_, hown, hC.perm hown ky_K.keyed Tryz.underlying9 (fun _ => rfl), ?_⟩
  have h5 := (hC.perm hown ky_K.keyed Tryz.underlying9 (fun _ => rfl)).length_eq
  rw [List.length_map] at h5
  rw [h5]
  simp [Maps.size, strKeys]
/-- slices.Sort's two contracts -/
theorem sorts_str (m : Nat) : AnyZ.SortsIn Tryz.prog lySorted_ren Fence.wide m :=
  ⟨fun blk off cap ss W hH hblk hsz => callsIn_wide.2 (AnyM.slices_Sort_string lySort blk off cap ss W hH hblk hsz),
   fun p cap W => callsIn_wide.2 (AnyM.slices_Sort_string_none lySort p cap W)⟩
theorem keysS_any (mb : Option Nat) (W : World) : Calls Tryz.prog 72 #[.map mb] W fun e w' => e = .returned (.func (.func 102) #[] #[.pointer (some ⟨W.heap.size, 0, none⟩)]) ∧ w' = W.alloc (.cells #[.map mb] 78) :=
  callsIn_wide.1 (AnyZ.keys_in lyKeys Fence.wide 5 trivial rfl mb W)
/-- strings that the call has made -/
def SsB (w : World) (B : Nat) (v : Value) (ss : List Ky) : Prop := w.ownsRow B 9 1 v ss.length (ss.map encStr)
theorem sortedS_any (w : World) (h : MapB encStr kyOk w b l) (hl : l.length ≤ 100000) :
    Calls Tryz.prog 71 #[.func (.func 102) #[] #[.pointer (some ⟨w.heap.size, 0, none⟩)]] (w.alloc (.cells #[.map (some b)] 78)) fun e w' =>
      ∃ v, e = .returned v ∧ SsB w' w.heap.size v ((l.map (·.1)).mergeSort leB) ∧ Below w.heap.size w w' := by
  obtain ⟨D0, hown, hp, hz⟩ := MapB.owns (H := Unit) h hl
  have hbl := hown.lt
  have hseq : SeqGives Fence.wide 2 Tryz.prog 102 #[.pointer (some ⟨w.heap.size, 0, none⟩)] encStr (fun ss => ss.Perm (strKeys D0)) (Maps.size D0) (w.alloc (.cells #[.map (some b)] 78)) :=
    AnyZ.keys_gives (ρ := lyKeys_ren) { lyKeys with } Fence.wide _ trivial rfl (by omega) w.heap.size b l.length D0 _ (by simp) (by simp) (by
      obtain ⟨es, clock, hb, Ft, hs, hD⟩ := hown
      exact ⟨es, clock, (Below.heap_alloc _ _ b hbl).trans hb, Ft, hs, hD⟩)
  have hc := AnyZ.sorted_in lySorted Fence.wide 5 trivial trivial trivial trivial rfl (by omega) (sorts_str _) (enters_of Tryz.func101 (by kernel_rfl) rfl) 102 #[.pointer (some ⟨w.heap.size, 0, none⟩)] trivial (enters_of Tryz.func102 (by kernel_rfl) rfl) _ _ (by rw [hz]; exact Nat.le_trans hl (by decide)) (by rw [hz]; omega) _ hseq
  refine (callsIn_wide.1 hc).mono ?_
  rintro e w' ⟨v, ss, rfl, hS, hrow, _, hb⟩
  have e1 : ss.mergeSort leB = (l.map (·.1)).mergeSort leB := mergeSort_of_perm (hS.trans hp.symm)
  refine ⟨v, rfl, ?_, ((Below.refl _ _).alloc (Nat.le_refl _) _).trans (hb.mono (by simp))⟩
  unfold SsB
  have h2 := row_low hrow (B' := w.heap.size) (by simp)
  have e2 : ss.length = (ss.mergeSort leB).length := by rw [List.length_mergeSort]
  rw [e2] at h2
  change w'.ownsRow w.heap.size 9 1 v (ss.mergeSort leB).length ((ss.mergeSort leB).map encStr) at h2
  rw [e1] at h2
  exact h2
end
/-- the keys, rising -/
def kysK (S : Bk2) : List Ky := (S.map (·.1)).mergeSort leB
set_option maxRecDepth 100000 in
theorem bkeys_any (b : Nat) (S : Bk2) (w : World) (O : Tg) (h : BokB w O b S) (hl : S.length ≤ 100000) :
    Calls Tryz.prog 36 #[.map (some b)] w fun e w' => ∃ v, e = .returned v ∧ SsB w' w.heap.size v (kysK S) ∧ Below w.heap.size w w' := by
  obtain ⟨es, l, hm, hv, hp⟩ := h
  have KE : Hid ((es.map (·.1)).mergeSort leB = kysK S) := Lib.hid (by unfold kysK; rw [hv.keys]; exact mergeSort_of_perm (hp.map _))
  have HK := Lib.hid fun W => keysS_any (some b) W
  have HS := Lib.hid (sortedS_any w hm (by rw [hv.len, hp.length_eq]; exact hl))
  rw [KE.out] at HS
  clear hm hv hp hl
  go_enter Tryz.func36, Tryz.ntmps36
  go_wp2_with fail
  refine (HK.out _).mono ?_
  rintro e w1 ⟨rfl, rfl⟩
  go_wp2_with fail
  refine HS.out.mono ?_
  rintro e w1 ⟨v, rfl, hv, hb⟩
  have HV := Lib.hid hv
  have HB := Lib.hid hb
  clear hv hb HS HK
  go_wp2_with fail
  go_ret
  exact ⟨_, rfl, HV.out, HB.out⟩
end Go.Proofs.YtnnjmelibmiimaaGreat
namespace Go.Proofs.YtnnjmelibmiimaaGreat
open Go.RowKit Go.Shelf Go.Maps Go.Sort
set_option linter.unusedVariables false
set_option linter.unusedSimpArgs false

/-- strings in memory of the call's own -/
def StB (w : World) (N : Nat) (v : Value) (ks : List Ky) : Prop := ∃ A cap, v = .slice A ks.length cap ∧ ks.length ≤ cap ∧ cap ≤ maxLen ∧ ((A = none ∧ cap = 0) ∨ ∃ g, A = some ⟨g, 0, none⟩ ∧ N ≤ g ∧ g < w.heap.size ∧ Holds encStr w g 0 ks.toArray)
section
variable {w w' : World} {N : Nat} {v : Value} {ks : List Ky}
theorem SsB.st (h : SsB w N v ks) : StB w N v ks := by
  by_cases hv : v = .slice none 0 0
  · subst hv
    have hl : ks.length = 0 := by
      rcases h.2 with ⟨_, h2⟩ | ⟨g, cap, cur, e, _⟩
      · simpa using h2
      · cases e
    exact ⟨none, 0, by rw [hl], by omega, by decide, .inl ⟨rfl, rfl⟩⟩
  · obtain ⟨g, cap, e, hb, hg, hn, hm, _, hH⟩ := Go.Lib.holds_of_ownsRow h hv
    exact ⟨_, cap, e, hn, hm, .inr ⟨g, rfl, hb, hg, hH⟩⟩
theorem StB.ab (h : StB w N v ks) (hb : Below w.heap.size w w') : StB w' N v ks := by
  obtain ⟨A, cap, e, h1, h2, h3⟩ := h
  refine ⟨A, cap, e, h1, h2, ?_⟩
  rcases h3 with h3 | ⟨g, rfl, h4, h5, h6⟩
  · exact .inl h3
  · refine .inr ⟨g, rfl, h4, Nat.lt_of_lt_of_le h5 hb.size, fun j hj => ?_⟩
    obtain ⟨k1, k2⟩ := h6 j hj
    exact ⟨(World.cell?_of_block (hb.block g h5)).trans k1, (hb.frozen (p := ⟨g, 0 + j, none⟩) h5).trans k2⟩
theorem holds_pre {w : World} {g : Nat} {a b : List Ky} (h : Holds encStr w g 0 (a ++ b).toArray) : Holds encStr w g 0 a.toArray := fun j hj => by
  have hj' : j < a.length := by simpa using hj
  have := h j (by simp; omega)
  rw [getElem!_pos _ j (by simp; omega)] at this
  rw [getElem!_pos _ j hj]
  simpa [List.getElem_append_left hj'] using this
end
/-- is a key left out? -/
def delP (f u : List Nat) (k : Ky) : Bool := decide (k < k8 f) || (decide (0 < u.length) && !decide (k < k8 u))
theorem strOf_toListK (l : List Nat) : (strOf l).toList = k8 l := ByteArray.toList_mk _
set_option maxRecDepth 100000 in
theorem scan1_any (c : CallP) (g : Nat) (k : Ky) (W : World) (hb : CbB W g 36 c.cs) (hf : IsB W c.frm.A c.frm.n c.frm.c c.frm.l) (hu : IsB W c.upto.A c.upto.n c.upto.c c.upto.l) :
    FnGives Tryz.prog 90 #[.pointer (some ⟨g, 0, none⟩)] #[encStr k] (.bool (delP c.frm.l c.upto.l k)) W := by
  show Calls Tryz.prog 90 #[encStr k, .pointer (some ⟨g, 0, none⟩)] W _
  have c11 : W.cell? ⟨g, 11, none⟩ = some (.slice c.frm.A c.frm.n c.frm.c) := hb.cell (k := 11) rfl
  have c12 : W.cell? ⟨g, 12, none⟩ = some (.slice c.upto.A c.upto.n c.upto.c) := hb.cell (k := 12) rfl
  have h1 := run_str hf 31 5 9 Tryz.underlying31 Tryz.underlying5 Tryz.underlying9
  have h2 := run_str hu 31 5 9 Tryz.underlying31 Tryz.underlying5 Tryz.underlying9
  have hl := hu.len
  have D := Lib.hid (show delP c.frm.l c.upto.l k = (decide (k < k8 c.frm.l) || (decide (0 < c.upto.l.length) && !decide (k < k8 c.upto.l))) from rfl)
  have e1 : Op.bytesLess k (strOf c.frm.l).toList = decide (k < k8 c.frm.l) := by rw [strOf_toListK, bytesLess_eq]
  have e2 : Op.bytesLess k (strOf c.upto.l).toList = decide (k < k8 c.upto.l) := by rw [strOf_toListK, bytesLess_eq]
  generalize decide (k < k8 c.frm.l) = b1 at *
  generalize decide (k < k8 c.upto.l) = b2 at *
  unfold encStr
  by_cases h0 : 0 < c.upto.n
  · have hn : decide ((0 : Int) < (c.upto.n : Int)) = true := decide_eq_true (by omega)
    have hd : decide (0 < c.upto.l.length) = true := decide_eq_true (by omega)
    rw [hd] at D
    rw [D.out]
    clear hb hf hu hl D hd
    cases b1 <;> cases b2 <;>
    (go_enter Tryz.func90, Tryz.ntmps90
     go_wp2_with fail
     go_ret
     exact ⟨rfl, 0, rfl⟩)
  · have hn : decide ((0 : Int) < (c.upto.n : Int)) = false := decide_eq_false (by omega)
    have hd : decide (0 < c.upto.l.length) = false := decide_eq_false (by omega)
    rw [hd] at D
    rw [D.out]
    clear hb hf hu hl D hd
    cases b1 <;> cases b2 <;>
    (go_enter Tryz.func90, Tryz.ntmps90
     go_wp2_with fail
     go_ret
     exact ⟨rfl, 0, rfl⟩)
/-- slices.IndexFunc, DeleteFunc of no string at all -/
theorem idxS_nil (fv : Value) (w : World) : Calls Tryz.prog 116 #[.slice none 0 0, fv] w fun e w' => e = .returned (.int .i64 (-1)) ∧ w = w' := by
  go_enter Tryz.func116, Tryz.ntmps116
  go_wp2_with fail
  refine wp_loop_rounds 1 ?_
  rw [rounds_succ]
  go_wp2_with fail
  go_ret
  exact ⟨rfl, rfl⟩
theorem delS_nil (fv : Value) (w : World) : Calls Tryz.prog 89 #[.slice none 0 0, fv] w fun e w' => e = .returned (.slice none 0 0) ∧ w = w' := by
  have HI := Lib.hid (idxS_nil fv w)
  go_enter Tryz.func89, Tryz.ntmps89
  go_wp2_with fail
  refine HI.out.mono ?_
  rintro e w1 ⟨rfl, rfl⟩
  go_wp2_with fail
  go_ret
  exact ⟨rfl, rfl⟩
theorem delS_any (c : CallP) (b N : Nat) (v : Value) (ks : List Ky) (w : World) (h : StB w N v ks) (hN : b < N) (hNw : N ≤ w.heap.size) (hcb : CbB w b 36 c.cs) (hf : IsB w c.frm.A c.frm.n c.frm.c c.frm.l) (hu : IsB w c.upto.A c.upto.n c.upto.c c.upto.l)
    (hfl : ∀ x, c.frm.A = some x → 0 < c.frm.n → x.block < N) (hul : ∀ x, c.upto.A = some x → 0 < c.upto.n → x.block < N) :
    Calls Tryz.prog 89 #[v, .func (.func 90) #[] #[.pointer (some ⟨b, 0, none⟩)]] w fun e w' => ∃ v', e = .returned v' ∧ StB w' N v' (ks.filter fun k => !delP c.frm.l c.upto.l k) ∧ Below N w w' := by
  obtain ⟨A, cap, rfl, h1, h2, h3⟩ := h
  rcases h3 with ⟨rfl, rfl⟩ | ⟨g, rfl, h4, h5, h6⟩
  · have hk : ks = [] := List.eq_nil_of_length_eq_zero (by omega)
    subst hk
    refine (delS_nil _ w).mono ?_
    rintro e w' ⟨rfl, rfl⟩
    exact ⟨_, rfl, ⟨none, 0, rfl, by simp, by decide, .inl ⟨rfl, rfl⟩⟩, Below.refl _ _⟩
  · have hH : Holds encStr w g 0 ks.toArray := h6
    have hbel : ∀ n (dk : Array Ky), Below N w (putRow encStr (Sort.ahead w n) g 0 dk) := fun n dk => Go.Lib.below_putRow (Below.refl _ _) h4
    have isb : ∀ {W : World} {A n cp l}, Below N w W → IsB w A n cp l → (∀ x, A = some x → 0 < n → x.block < N) → IsB W A n cp l := fun {W A n cp l} hb hi hx => by
      refine isB_frZ (F := fun k => N ≤ k) hi ⟨hb.os, hb.tape, hb.output, hb.size, fun k _ hk => hb.block k (by omega)⟩ fun hn x e => by have := hx x e hn; omega
    have hcon := AnyE.slices_DeleteFunc lyDel encStr (fun _ => rfl) (delP c.frm.l c.upto.l) 90 #[.pointer (some ⟨b, 0, none⟩)] (enters_of Tryz.func90 (by kernel_rfl) rfl) [] Tryz.zeroValue9 g 0 cap ks.toArray w
      (fun W x hb => scan1_any c b x W (hcb.ab hb) (hf.ab hb) (hu.ab hb))
      (fun n os dk x _ => by
        have hb : Below N w (sortWorld encStr w g 0 n dk os) := by
          unfold sortWorld
          have h7 := _root_.Go.Proofs.below_grown (putRow encStr (Sort.ahead w n) g 0 dk) 0 os
          rw [Sort.ahead_zero] at h7
          exact (hbel n dk).trans (h7.mono (by rw [Sort.size_putRow]; exact hNw))
        exact scan1_any c b x _ (hcb.low hb hN) (isb hb hf hfl) (isb hb hu hul))
      hH (by simp; exact Nat.le_trans h1 (Nat.le_trans h2 (by decide))) (by simpa using h1)
    have hcon2 := hcon.mono (R' := fun e w' => ∃ v', e = .returned v' ∧ StB w' N v' (ks.filter fun k => !delP c.frm.l c.upto.l k) ∧ Below N w w') (by
      rintro e w' ⟨rfl, q, rfl⟩
      refine ⟨_, rfl, ⟨some ⟨g, 0, none⟩, cap, by simp, ?_, h2, .inr ⟨g, rfl, h4, by simpa using h5, ?_⟩⟩, hbel q _⟩
      · exact Nat.le_trans (List.length_filter_le _ _) h1
      · refine holds_pre (b := List.replicate (ks.toArray.size - (ks.toArray.toList.filter fun x => !delP c.frm.l c.upto.l x).length) []) ?_
        have := holds_putRow encStr (Sort.ahead w q) g 0 ks.toArray ((ks.toArray.toList.filter fun x => !delP c.frm.l c.upto.l x) ++ List.replicate (ks.toArray.size - (ks.toArray.toList.filter fun x => !delP c.frm.l c.upto.l x).length) []).toArray (holds_ahead encStr w q g 0 _ hH) (by
          have := List.length_filter_le (fun x => !delP c.frm.l c.upto.l x) ks
          simp
          omega)
        simpa using this)
    have hcon3 : Calls Tryz.prog 89 _ w _ := hcon2
    simpa using hcon3
/-- turned round -/
theorem revS_any (N : Nat) (v : Value) (ks : List Ky) (w : World) (h : StB w N v ks) :
    Calls Tryz.prog 91 #[v] w fun e w' => e = .returned (.tuple #[]) ∧ StB w' N v ks.reverse ∧ Below N w w' := by
  obtain ⟨A, cap, rfl, h1, h2, h3⟩ := h
  rcases h3 with ⟨rfl, rfl⟩ | ⟨g, rfl, h4, h5, h6⟩
  · have hk : ks = [] := List.eq_nil_of_length_eq_zero (by omega)
    subst hk
    refine (AnyG.slices_Reverse_string_empty lyRev none 0 w).mono ?_
    rintro e w' ⟨rfl, rfl⟩
    exact ⟨rfl, ⟨none, 0, rfl, by simp, by decide, .inl ⟨rfl, rfl⟩⟩, Below.refl _ _⟩
  · refine (AnyG.slices_Reverse_string lyRev g 0 cap ks w h6 (Nat.le_trans h1 (Nat.le_trans h2 (by decide)))).mono ?_
    rintro e w' ⟨rfl, q, rfl⟩
    refine ⟨rfl, ⟨some ⟨g, 0, none⟩, cap, by simp, by simpa using h1, h2, .inr ⟨g, rfl, h4, by simpa using h5, ?_⟩⟩, Go.Lib.below_putRow (Below.refl _ _) h4⟩
    exact holds_putRow encStr (Sort.ahead w q) g 0 ks.toArray ks.reverse.toArray (holds_ahead encStr w q g 0 _ h6) (by simp)
end Go.Proofs.YtnnjmelibmiimaaGreat
