/-
  IDEAL: a store that is not there; known: the walks.
-/
import Derived.Test.YtnnjmelibmiimaaGreatBdn
import Derived.Test.YtnnjmelibmiimaaGreatBdv
import Derived.Test.YtnnjmelibmiimaaGreatBdq
import Derived.Test.YtnnjmelibmiimaaGreatBdw
namespace Go.Proofs.YtnnjmelibmiimaaGreat
open Go.RowKit
set_option linter.unusedVariables false
set_option linter.unusedSimpArgs false

section
variable {w : World} {O : Tg} {s blocks m : Nat} {T : List TnP} {bs : List (Nat × TnP)} {c : CallP}
set_option maxRecDepth 100000 in
theorem map_none (po : Option Addr) (n : Nat) (hn : ∀ W, Below w.heap.size w W → Calls Tryz.prog 25 #[.pointer po] W fun r w' => r = .returned (.bool true) ∧ W = w') : Calls Tryz.prog 22 #[.pointer po, .int .u32 (n : Int)] w fun e w' => e = .returned (.tuple #[.slice none 0 0, .int .i64 1]) ∧ w = w' := by
  have HN := Lib.hid (hn w (Below.refl _ _))
  clear hn
  go_enter Tryz.func22, Tryz.ntmps22
  go_wp2_with fail
  refine HN.out.mono ?_
  rintro e w1 ⟨rfl, rfl⟩
  go_wp2_with fail
  go_ret2
  exact ⟨rfl, rfl⟩
end
/-! known -/
/-- a store that the law has made, and nothing else turned -/
structure KnS (w0 : World) (s : Nat) (T : List TnP) (W : World) (O : Tg) : Prop where
  ib : IdB W O s 100 T
  bl : Below w0.heap.size w0 W
  no : ∀ k, k < w0.heap.size → O k = none
section
variable {w0 W W2 : World} {O O2 : Tg} {s : Nat} {T T2 : List TnP}
theorem KnS.ab (h : KnS w0 s T W O) (hb : Below W.heap.size W W2) : KnS w0 s T W2 (cutTg O W.heap.size) := by
  have st : Stp (fun _ => False) W O W2 (cutTg O W.heap.size) := Stp.cut hb _
  refine ⟨h.ib.stp st fun _ h => h, below_tr h.bl hb h.bl.size, fun k hk => ?_⟩
  rw [st.tg k (Nat.lt_of_lt_of_le hk h.bl.size)]
  exact h.no k hk
theorem KnS.step (h : KnS w0 s T W O) {a : AnsP} {e : Ending} (k : DoR s 100 W O a T2 e W2) : ∃ cs O2, e = .returned (.agg cs) ∧ AnsB W2 W.heap.size O2 cs a ∧ KnS w0 s T2 W2 O2 ∧ Stp (fun τ => τ.1 = s) W O W2 O2 := by
  obtain ⟨cs, O2, e1, an, ib, st⟩ := k
  exact ⟨cs, O2, e1, an, ⟨ib, st.below h.bl h.bl.size h.no, fun k hk => (st.tg k (Nat.lt_of_lt_of_le hk h.bl.size)).trans (h.no k hk)⟩, st⟩
theorem idM_one {t : TnP} {m : Nat} {bs : List (Nat × TnP)} (h : IdM W O s 100 [t] m bs) : ∃ b, bs = [(b, t)] := by
  have h1 := List.perm_singleton.1 h.prm
  cases bs with
  | nil => simp at h1
  | cons p r =>
    cases r with
    | nil =>
      obtain ⟨b, t'⟩ := p
      simp at h1
      subst h1
      exact ⟨b, rfl⟩
    | cons q r => simp at h1
theorem AnsB.err {C : Nat} {cs : Array Value} {a : AnsP} (h : AnsB W C O cs a) : ∃ A1 n1 c1 A2 n2 c2 A3 n3 c3, cs = #[.int .i64 a.err, .int .u64 (a.hd : Int), .int .u64 (a.sn : Int), .slice A1 n1 c1, .slice A2 n2 c2, .int .i64 a.cnt, .slice A3 n3 c3] ∧ OwB W C (.slice A1 n1 c1) a.val := by
  obtain ⟨⟨v, p, l, h1, h2, h3, ⟨vs, p1, p2, p3, p4⟩, h5, h6⟩⟩ := h
  obtain ⟨A1, n1, c1, rfl⟩ := row_sl h2.own
  obtain ⟨A2, n2, c2, rfl⟩ := row_sl p1
  obtain ⟨A3, n3, c3, rfl⟩ := row_sl h5
  exact ⟨_, _, _, _, _, _, _, _, _, h1, h2⟩
/-- a field of an answer -/
theorem run_fieldA (e : Int) (h sn : Int) (n : Int) (A1 : Option Addr) (n1 c1 : Nat) (A2 : Option Addr) (n2 c2 : Nat) (A3 : Option Addr) (n3 c3 : Nat) (k : Nat) (v : Value) (hk : (#[.int .i64 e, .int .u64 h, .int .u64 sn, .slice A1 n1 c1, .slice A2 n2 c2, .int .i64 n, .slice A3 n3 c3] : Array Value)[k]? = some v) (w : World) :
    (Instr.field 40 (.agg #[.int .i64 e, .int .u64 h, .int .u64 sn, .slice A1 n1 c1, .slice A2 n2 c2, .int .i64 n, .slice A3 n3 c3]) k).run Tryz.prog w = .ok v w := by
  rcases k with _ | _ | _ | _ | _ | _ | _ | k
  all_goals (simp at hk; try subst hk)
  all_goals kernel_rfl
theorem KnS.pos (h : KnS w0 s T W O) : 0 < s := by obtain ⟨m, bs, h⟩ := h.ib; exact h.pos
end
def nilA : SlA := ⟨none, 0, 0, []⟩
/-- the four calls -/
def kn1 (g : Nat) : CallP := ⟨1, 1, ⟨some ⟨g, 0, none⟩, 16, 16, List.replicate 16 97⟩, 10, 0, 0, 0, 0, 0, none, 0, 0, [], nilA, nilA, nilA, false⟩
def kn2 (g : Nat) : CallP := ⟨8, 1, ⟨some ⟨g, 0, none⟩, 16, 16, List.replicate 16 97⟩, 0, 0, 0, 0, 0, 0, none, 0, 0, [], nilA, nilA, nilA, false⟩
def opK (g1 g2 : Nat) : OpP := ⟨⟨some ⟨g1, 0, none⟩, 1, 1, [107]⟩, ⟨some ⟨g2, 0, none⟩, 1, 1, [50]⟩, false⟩
def kn3 (g g1 g2 : Nat) : CallP := ⟨11, 0, nilA, 0, 0, 4294967297, 0, 0, 0, some ⟨g, 0, none⟩, 1, 1, [opK g1 g2], nilA, nilA, nilA, false⟩
def kn4 (g : Nat) : CallP := ⟨12, 0, nilA, 0, 0, 4294967297, 0, 0, 0, none, 0, 0, [], ⟨some ⟨g, 0, none⟩, 1, 1, [107]⟩, nilA, nilA, false⟩
def kt1 : TnP := ⟨1, List.replicate 16 97, 10, [], [], [], false⟩
def kt2 : TnP := ⟨1, List.replicate 16 97, 10, [], [⟨15, 0, true⟩], [], false⟩
def kt3 : TnP := ⟨1, List.replicate 16 97, 10, [(k8 [107], [50])], [⟨15, 0, true⟩], [], false⟩
theorem kn1_ok (g : Nat) : (kn1 g).Ok := ⟨(show ckOk 1 from rfl), (show 1 < 4294967296 by decide), (show 0 < 18446744073709551616 by decide), (show 0 < 18446744073709551616 by decide), (show 0 < 18446744073709551616 by decide), (show 0 < 256 by decide)⟩
theorem kn2_ok (g : Nat) : (kn2 g).Ok := ⟨(show ckOk 8 from rfl), (show 1 < 4294967296 by decide), (show 0 < 18446744073709551616 by decide), (show 0 < 18446744073709551616 by decide), (show 0 < 18446744073709551616 by decide), (show 0 < 256 by decide)⟩
theorem kn3_ok (g g1 g2 : Nat) : (kn3 g g1 g2).Ok := ⟨(show ckOk 11 from rfl), (show 0 < 4294967296 by decide), (show 4294967297 < 18446744073709551616 by decide), (show 0 < 18446744073709551616 by decide), (show 0 < 18446744073709551616 by decide), (show 0 < 256 by decide)⟩
theorem kn4_ok (g : Nat) : (kn4 g).Ok := ⟨(show ckOk 12 from rfl), (show 0 < 4294967296 by decide), (show 4294967297 < 18446744073709551616 by decide), (show 0 < 18446744073709551616 by decide), (show 0 < 18446744073709551616 by decide), (show 0 < 256 by decide)⟩
section
variable {w0 W : World} {O : Tg} {s : Nat}
theorem kn_create (g : Nat) (h : KnS w0 s [] W O) (hs : IsB W (some ⟨g, 0, none⟩) 16 16 (List.replicate 16 97)) :
    Calls Tryz.prog 10 #[.pointer (some ⟨s, 0, none⟩), .agg (kn1 g).cs] W (DoR s 100 W O (errA 0) [kt1]) := by
  obtain ⟨m, bs, ib⟩ := h.ib
  have hb0 : bs = [] := by have := List.perm_nil.1 ib.prm; simpa using this
  refine do_of 39 ib (kn1_ok g).kind rfl (enters_of Tryz.func39 (by kernel_rfl) rfl) _ _ fun V hb hi => ?_
  exact id_create_some hi (kn1_ok g) (by rw [hb0]; rfl) (hs.ab hb) (by decide) rfl rfl rfl rfl _ _ rfl rfl
theorem kn_attach (g : Nat) (h : KnS w0 s [kt1] W O) (hs : IsB W (some ⟨g, 0, none⟩) 16 16 (List.replicate 16 97)) :
    Calls Tryz.prog 10 #[.pointer (some ⟨s, 0, none⟩), .agg (kn2 g).cs] W (DoR s 100 W O (hdA 4294967297) [kt2]) := by
  obtain ⟨m, bs, ib⟩ := h.ib
  obtain ⟨b, hb0⟩ := idM_one ib
  subst hb0
  refine do_of 46 ib (kn2_ok g).kind rfl (enters_of Tryz.func46 (by kernel_rfl) rfl) _ _ fun V hb hi => ?_
  have e1 : (kn2 g).ten * 4294967296 + ((b, kt1).2.A.length + 1) = 4294967297 := by show 1 * 4294967296 + (0 + 1) = 4294967297; decide
  have e2 : updT (kn2 g).ten (attT (b, kt1).2) [kt1] = [kt2] := by show updT 1 (attT kt1) [kt1] = [kt2]; rfl
  rw [← e1, ← e2]
  exact attach_yes (b, kt1) hi (kn2_ok g) rfl (hs.ab hb) rfl (show ([] : HL).length < 1000000 by decide) rfl
theorem kn_batch (g g1 g2 : Nat) (h : KnS w0 s [kt2] W O) (ho : OpsB W (some ⟨g, 0, none⟩) 1 1 [opK g1 g2]) :
    Calls Tryz.prog 10 #[.pointer (some ⟨s, 0, none⟩), .agg (kn3 g g1 g2).cs] W (DoR s 100 W O (errA 0) [kt3]) := by
  obtain ⟨m, bs, ib⟩ := h.ib
  obtain ⟨b, hb0⟩ := idM_one ib
  subst hb0
  refine do_of 49 ib (kn3_ok g g1 g2).kind rfl (enters_of Tryz.func49 (by kernel_rfl) rfl) _ _ fun V hb hi => ?_
  have d1 : (kn3 g g1 g2).hd / 4294967296 = 1 := by show 4294967297 / 4294967296 = 1; decide
  have d2 : (kn3 g g1 g2).hd % 4294967296 = 1 := by show 4294967297 % 4294967296 = 1; decide
  have e1 : batA (b, kt2).2 (kn3 g g1 g2).ops = errA 0 := rfl
  have e2 : updT ((kn3 g g1 g2).hd / 4294967296) (batQ (b, kt2).2 (kn3 g g1 g2).ops) [kt2] = [kt3] := by rw [d1]; rfl
  rw [← e1, ← e2]
  exact id_batch_ok (b, kt2) hi (kn3_ok g g1 g2) (by rw [d1]; rfl) (by rw [d2]; exact (show checkH [⟨15, 0, true⟩] 1 2 = 0 by decide)) (show 1 ≤ 100 by decide) (ho.ab hb) rfl ⟨(show 0 ≤ 90000 by decide), fun p hp => (by cases hp), (show 0 ≤ 100000 by decide)⟩
theorem kn_get (g : Nat) (h : KnS w0 s [kt3] W O) (hs : IsB W (some ⟨g, 0, none⟩) 1 1 [107]) :
    Calls Tryz.prog 10 #[.pointer (some ⟨s, 0, none⟩), .agg (kn4 g).cs] W (DoR s 100 W O (valA [50]) [kt3]) := by
  obtain ⟨m, bs, ib⟩ := h.ib
  obtain ⟨b, hb0⟩ := idM_one ib
  subst hb0
  refine do_of 50 ib (kn4_ok g).kind rfl (enters_of Tryz.func50 (by kernel_rfl) rfl) _ _ fun V hb hi => ?_
  have d1 : (kn4 g).hd / 4294967296 = 1 := by show 4294967297 / 4294967296 = 1; decide
  have d2 : (kn4 g).hd % 4294967296 = 1 := by show 4294967297 % 4294967296 = 1; decide
  exact id_get_hit (b, kt3) hi (kn4_ok g) (by rw [d1]; rfl) (by rw [d2]; exact (show checkH [⟨15, 0, true⟩] 1 1 = 0 by decide)) (show 1 ≤ 1 ∧ 1 ≤ 32 by decide) (hs.ab hb) [(k8 [107], [50])] rfl [50] rfl
end
end Go.Proofs.YtnnjmelibmiimaaGreat
namespace Go.Proofs.YtnnjmelibmiimaaGreat
open Go.RowKit
set_option linter.unusedVariables false
set_option linter.unusedSimpArgs false

/-- one op, of one key and one value of a byte each -/
theorem opsB_one (w : World) : OpsB (((w.alloc (.cells #[.int .u8 107] 5 (1, 2))).alloc (.cells #[.int .u8 50] 5 (1, 2))).alloc (.cells #[.slice (some ⟨w.heap.size, 0, none⟩) 1 1, .slice (some ⟨w.heap.size + 1, 0, none⟩) 1 1, .bool false] 68)) (some ⟨w.heap.size + 1 + 1, 0, none⟩) 1 1 [opK w.heap.size (w.heap.size + 1)] := by
  have i1 : IsB (w.alloc (.cells #[.int .u8 107] 5 (1, 2))) (some ⟨w.heap.size, 0, none⟩) 1 1 [107] := isB_marked (t := 5) (l := [107]) (heap_alloc_new w _) (fun x hx => by simp at hx; omega) (by simp) (by decide)
  have i2 : IsB ((w.alloc (.cells #[.int .u8 107] 5 (1, 2))).alloc (.cells #[.int .u8 50] 5 (1, 2))) (some ⟨(w.alloc (.cells #[.int .u8 107] 5 (1, 2))).heap.size, 0, none⟩) 1 1 [50] := isB_marked (t := 5) (l := [50]) (heap_alloc_new (w.alloc (.cells #[.int .u8 107] 5 (1, 2))) _) (fun x hx => by simp at hx; omega) (by simp) (by decide)
  have e2 : (w.alloc (.cells #[.int .u8 107] 5 (1, 2))).heap.size = w.heap.size + 1 := by simp
  rw [e2] at i2
  have cb : CbB (((w.alloc (.cells #[.int .u8 107] 5 (1, 2))).alloc (.cells #[.int .u8 50] 5 (1, 2))).alloc (.cells #[.slice (some ⟨w.heap.size, 0, none⟩) 1 1, .slice (some ⟨w.heap.size + 1, 0, none⟩) 1 1, .bool false] 68)) (w.heap.size + 1 + 1) 68 #[.slice (some ⟨w.heap.size, 0, none⟩) 1 1, .slice (some ⟨w.heap.size + 1, 0, none⟩) 1 1, .bool false] := CbB.newI (by simp)
  refine ⟨rfl, Nat.le_refl _, by decide, fun i o ho => ?_⟩
  rcases i with _ | i
  · simp only [List.getElem?_cons_zero, Option.some.injEq] at ho
    subst ho
    exact ⟨⟨w.heap.size + 1 + 1, 0, none⟩, rfl, cb.lt, cb.cell (k := 0) rfl, cb.cell (k := 1) rfl, cb.cell (k := 2) rfl, (i1.ab ((Below.refl _ _).alloc (Nat.le_refl _) _)).ab ((Below.refl _ _).alloc (Nat.le_refl _) _), i2.ab ((Below.refl _ _).alloc (Nat.le_refl _) _)⟩
  · simp at ho
set_option maxRecDepth 100000 in
set_option maxHeartbeats 4000000 in
theorem known26_any (w : World) : Calls Tryz.prog 8 #[] w fun e w' => e = .returned (.bool true) ∧ Below w.heap.size w w' := by
  have HN := Lib.hid (idNew_any 100 (by decide) (by decide) w (fun _ => none))
  have HS := Lib.hid fun W => secret_any W
  have hkc := fun (w : World) (C : Array Value) (n c : Nat) => Lib.run_convert_bytes_const (P := Tryz.prog) w 31 5 C n c Tryz.underlying31 Tryz.underlying5
  have hf0 := fun e h sn n A1 n1 c1 A2 n2 c2 A3 n3 c3 w => run_fieldA e h sn n A1 n1 c1 A2 n2 c2 A3 n3 c3 0 _ rfl w
  have hf1 := fun e h sn n A1 n1 c1 A2 n2 c2 A3 n3 c3 w => run_fieldA e h sn n A1 n1 c1 A2 n2 c2 A3 n3 c3 1 _ rfl w
  go_enter Tryz.func8, Tryz.ntmps8
  go_wp2_with fail
  refine HN.out.mono ?_
  rintro e w1 ⟨rfl, ib, sz, hb⟩
  have K1 : Hid (KnS w (w.heap.size + 1) [] w1 (newTg (fun _ => none) w.heap.size (w.heap.size + 1))) := Lib.hid ⟨ib, hb, fun k hk => by unfold newTg; rw [if_neg (by omega)]⟩
  clear ib sz hb HN
  go_wp2_with fail
  refine (HS.out _).mono ?_
  rintro e w2 ⟨rfl, hs, hb⟩
  have K2 := Lib.hid (K1.out.ab hb)
  have HC := Lib.hid (kn_create w1.heap.size K2.out hs)
  clear hs hb
  unfold kn1 CallP.cs nilA at HC
  dsimp only at HC
  go_wp2_with fail
  refine HC.out.mono ?_
  intro e w3 hd
  obtain ⟨cs3, O3, rfl, an, k3, _⟩ := K2.out.step hd
  obtain ⟨A3, n3, c3, B3, b3, d3, L3, q3, z3, rfl, ho3⟩ := an.err
  have K3 := Lib.hid k3
  clear hd an ho3 k3 HC K2 K1
  dsimp only [errA]
  go_wp2_with fail
  refine (HS.out _).mono ?_
  rintro e w4 ⟨rfl, hs, hb⟩
  have K4 := Lib.hid (K3.out.ab hb)
  have HC := Lib.hid (kn_attach w3.heap.size K4.out hs)
  clear hs hb
  unfold kn2 CallP.cs nilA at HC
  dsimp only at HC
  go_wp2_with fail
  refine HC.out.mono ?_
  intro e w5 hd
  obtain ⟨cs5, O5, rfl, an, k5, _⟩ := K4.out.step hd
  obtain ⟨A5, n5, c5, B5, b5, d5, L5, q5, z5, rfl, ho5⟩ := an.err
  have K5 := Lib.hid k5
  clear hd an ho5 k5 HC K4 K3
  have hdv : ((hdA 4294967297).hd : Int) = 4294967297 := rfl
  rw [hdv]
  clear hdv
  have hk2 : ∀ W : World, (convert 31 31 (.slice (some ⟨W.heap.size + 1, 0, none⟩) 1 1)).run Tryz.prog ((W.alloc (.cells #[.int .u8 107] 5 (1, 2))).alloc (.cells #[.int .u8 50] 5)) = .ok (.slice (some ⟨W.heap.size + 1, 0, none⟩) 1 1) ((W.alloc (.cells #[.int .u8 107] 5 (1, 2))).alloc (.cells #[.int .u8 50] 5 (1, 2))) := fun W => by
    have := hkc (W.alloc (.cells #[.int .u8 107] 5 (1, 2))) #[.int .u8 50] 1 1
    simpa using this
  have b6 : Below w5.heap.size w5 (((w5.alloc (.cells #[.int .u8 107] 5 (1, 2))).alloc (.cells #[.int .u8 50] 5 (1, 2))).alloc (.cells #[.slice (some ⟨w5.heap.size, 0, none⟩) 1 1, .slice (some ⟨w5.heap.size + 1, 0, none⟩) 1 1, .bool false] 68)) := (((Below.refl _ _).alloc (Nat.le_refl _) _).alloc (by simp) _).alloc (by simp; omega) _
  have K6 := Lib.hid (K5.out.ab b6)
  have HC := Lib.hid (kn_batch (w5.heap.size + 1 + 1) w5.heap.size (w5.heap.size + 1) K6.out (opsB_one w5))
  clear b6
  unfold kn3 CallP.cs nilA at HC
  dsimp only at HC
  go_wp2_with fail
  refine HC.out.mono ?_
  intro e w7 hd
  obtain ⟨cs7, O7, rfl, an, k7, _⟩ := K6.out.step hd
  obtain ⟨A7, n7, c7, B7, b7, d7, L7, q7, z7, rfl, ho7⟩ := an.err
  have K7 := Lib.hid k7
  clear hd an ho7 k7 HC K6 K5
  dsimp only [errA]
  go_upto_region 6 with (fail)
  have ba : Below w7.heap.size w7 (w7.alloc (.cells #[.int .i64 0, .int .u64 0, .int .u64 0, .slice A7 n7 c7, .slice B7 b7 d7, .int .i64 0, .slice L7 q7 z7] 40)) := (Below.refl _ _).alloc (Nat.le_refl _) _
  have k8 := K7.out.ab ba
  have cb8 := CbB.new w7 40 #[.int .i64 0, .int .u64 0, .int .u64 0, .slice A7 n7 c7, .slice B7 b7 d7, .int .i64 0, .slice L7 q7 z7]
  have t8 : cutTg O7 w7.heap.size w7.heap.size = some (0, 0) := cutTg_at (Nat.le_refl _)
  obtain ⟨w8, hw8⟩ : ∃ w8, w7.alloc (.cells #[.int .i64 0, .int .u64 0, .int .u64 0, .slice A7 n7 c7, .slice B7 b7 d7, .int .i64 0, .slice L7 q7 z7] 40) = w8 := ⟨_, rfl⟩
  rw [hw8] at k8 cb8 ⊢
  have b9 : Below w8.heap.size w8 (w8.alloc (.cells #[.int .u8 107] 5 (1, 2))) := (Below.refl _ _).alloc (Nat.le_refl _) _
  have k9 := k8.ab b9
  have t9 : cutTg (cutTg O7 w7.heap.size) w8.heap.size w7.heap.size = some (0, 0) := by rw [show cutTg (cutTg O7 w7.heap.size) w8.heap.size w7.heap.size = cutTg O7 w7.heap.size w7.heap.size from by unfold cutTg; rw [if_pos cb8.lt]]; exact t8
  have i9 : IsB (w8.alloc (.cells #[.int .u8 107] 5 (1, 2))) (some ⟨w8.heap.size, 0, none⟩) 1 1 [107] := isB_marked (t := 5) (l := [107]) (heap_alloc_new w8 _) (fun x hx => by simp at hx; omega) (by simp) (by decide)
  have cb9 := cb8.ab b9
  have HC := Lib.hid (kn_get w8.heap.size k9 i9)
  have K9 := Lib.hid k9
  have C9 := Lib.hid cb9
  have T9 := Lib.hid t9
  clear ba k8 cb8 t8 b9 k9 t9 i9 cb9 hw8 K7
  unfold kn4 CallP.cs nilA at HC
  dsimp only at HC
  go_wp2_with fail
  refine HC.out.mono ?_
  intro e w10 hd
  obtain ⟨cs10, O10, rfl, an, k10, st⟩ := K9.out.step hd
  obtain ⟨A1, n1, c1, B1, b1, d1, L1, q1, z1, rfl, ho10⟩ := an.err
  have cb10 : CbB w10 w7.heap.size 40 _ := (st.ot C9.out.lt T9.out (fun e => by have h2 : (0 : Nat) = w.heap.size + 1 := e; omega)).1.trans C9.out
  obtain ⟨A2, c2, he2, _, _⟩ := ho10.shape
  simp only [valA, Value.slice.injEq] at he2
  obtain ⟨rfl, rfl, rfl⟩ := he2
  have i10 := ho10.isB rfl
  have K10 := Lib.hid k10
  have C10 := Lib.hid cb10
  have I10 := Lib.hid i10
  clear hd an ho10 k10 st cb10 i10 HC K9 C9 T9
  dsimp only [valA]
  go_upto_region 7 with (fail)
  have ba : Below w10.heap.size w10 (w10.alloc (.cells #[.int .i64 0, .int .u64 0, .int .u64 0, .slice A1 1 c1, .slice B1 b1 d1, .int .i64 0, .slice L1 q1 z1] 40)) := (Below.refl _ _).alloc (Nat.le_refl _) _
  have k11 := (K10.out.ab ba).bl
  have x5 := CbB.new w10 40 #[.int .i64 0, .int .u64 0, .int .u64 0, .slice A1 1 c1, .slice B1 b1 d1, .int .i64 0, .slice L1 q1 z1]
  have x4 := C10.out.ab ba
  have i11 := I10.out.ab ba
  obtain ⟨w11, hw11⟩ : ∃ w11, w10.alloc (.cells #[.int .i64 0, .int .u64 0, .int .u64 0, .slice A1 1 c1, .slice B1 b1 d1, .int .i64 0, .slice L1 q1 z1] 40) = w11 := ⟨_, rfl⟩
  rw [hw11] at k11 x5 x4 i11 ⊢
  have y4 : w11.cell? ⟨w7.heap.size, 0, none⟩ = some (.int .i64 0) := x4.cell (k := 0) rfl
  have y5 : w11.cell? ⟨w10.heap.size, 0, none⟩ = some (.int .i64 0) := x5.cell (k := 0) rfl
  have y6 : w11.cell? ⟨w10.heap.size, 3, none⟩ = some (.slice A1 1 c1) := x5.cell (k := 3) rfl
  have hst : (convert 31 9 (.slice A1 1 c1)).run Tryz.prog w11 = .ok (.string ⟨#[50]⟩) w11 := run_str i11 31 5 9 Tryz.underlying31 Tryz.underlying5 Tryz.underlying9
  have KB := Lib.hid k11
  clear ba k11 x5 x4 i11 hw11 K10 C10 I10
  go_wp2_with fail
  go_ret
  exact ⟨rfl, KB.out⟩
end Go.Proofs.YtnnjmelibmiimaaGreat
namespace Go.Proofs.YtnnjmelibmiimaaGreat
open Go.RowKit
set_option linter.unusedVariables false
set_option linter.unusedSimpArgs false

/-- a store that the law has made -/
structure KnG (bk : Nat) (w0 : World) (s : Nat) (T : List TnP) (W : World) (O : Tg) : Prop where
  ib : IdB W O s bk T
  bl : Below w0.heap.size w0 W
  no : ∀ k, k < w0.heap.size → O k = none
section
variable {bk : Nat} {w0 W W2 : World} {O O2 : Tg} {s : Nat} {T T2 : List TnP}
theorem KnG.pos (h : KnG bk w0 s T W O) : 0 < s := by obtain ⟨m, bs, h⟩ := h.ib; exact h.pos
theorem KnG.ab (h : KnG bk w0 s T W O) (hb : Below W.heap.size W W2) : KnG bk w0 s T W2 (cutTg O W.heap.size) := by
  have st : Stp (fun _ => False) W O W2 (cutTg O W.heap.size) := Stp.cut hb _
  refine ⟨h.ib.stp st fun _ h => h, below_tr h.bl hb h.bl.size, fun k hk => ?_⟩
  rw [st.tg k (Nat.lt_of_lt_of_le hk h.bl.size)]
  exact h.no k hk
/-- a call -/
theorem KnG.call (h : KnG bk w0 s T W O) {c : CallP} (hc : c.B W) (hl : ∀ t ∈ T, LimK 800 t) (hn : T.length ≤ 100000) {a : AnsP} (he : stepP bk T c = (a, T2)) :
    Calls Tryz.prog 10 #[.pointer (some ⟨s, 0, none⟩), .agg c.cs] W fun e W2 => ∃ cs O2, e = .returned (.agg cs) ∧ AnsB W2 W.heap.size O2 cs a ∧ KnG bk w0 s T2 W2 O2 ∧ Stp (fun τ => τ.1 = s) W O W2 O2 := by
  obtain ⟨m, bs, ib⟩ := h.ib
  refine (do_any ib hc hl hn).mono ?_
  rintro e W2 ⟨cs, O2, e1, an, ib2, st⟩
  rw [he] at an ib2
  exact ⟨cs, O2, e1, an, ⟨ib2, st.below h.bl h.bl.size h.no, fun k hk => (st.tg k (Nat.lt_of_lt_of_le hk h.bl.size)).trans (h.no k hk)⟩, st⟩
theorem row_ot {P : Nat × Nat → Prop} {w w' : World} {O O' : Tg} {C n s : Nat} {e : TypeId} {v : Value} {xs : List Value} (h : w.ownsRow C e s v n xs) (ho : ∀ g, v.ownBlock = some g → O g = some (0, 0)) (k : Stp P w O w' O') (hn : ¬ P (0, 0)) :
    w'.ownsRow C e s v n xs ∧ ∀ g, v.ownBlock = some g → O' g = some (0, 0) := by
  refine ⟨row_fr h k.fr fun g hg => ?_, fun g hg => ?_⟩
  · rintro ⟨τ, e1, e2⟩
    rw [ho g hg] at e1
    injection e1 with e1
    subst e1
    exact hn e2
  · have hl : g < w.heap.size := by
      rcases h.2 with ⟨rfl, _⟩ | ⟨g', cap, cur, rfl, _, hb, _⟩
      · cases hg
      · simp only [Value.ownBlock, Option.some.injEq] at hg
        subst hg
        exact lt_of_block hb
    exact (k.tg g hl).trans (ho g hg)
/-- an answer stays where a store is called again -/
theorem AnsB.stp {P : Nat × Nat → Prop} {w w' : World} {O O' : Tg} {C : Nat} {cs : Array Value} {a : AnsP} (h : AnsB w C O cs a) (k : Stp P w O w' O') (hn : ¬ P (0, 0)) : AnsB w' C O' cs a := by
  obtain ⟨⟨v, p, l, rfl, h1, h2, ⟨vs, p1, p2, p3, p4⟩, h4, h5⟩⟩ := h
  obtain ⟨a1, a2⟩ := row_ot h1.own h2 k hn
  obtain ⟨b1, b2⟩ := row_ot p1 p2 k hn
  obtain ⟨c1, c2⟩ := row_ot h4 h5 k hn
  refine ⟨⟨v, p, l, rfl, ⟨a1, h1.byt⟩, a2, ⟨vs, b1, b2, p3, fun i x y hx hy => ?_⟩, c1, c2⟩⟩
  obtain ⟨⟨kk, q1, q2⟩, q3, q4, q5⟩ := p4 i x y hx hy
  obtain ⟨d1, d2⟩ := row_ot q3.own q5 k hn
  obtain ⟨g', n, cap, cs', fr, e, r1, r2, r3⟩ := q1
  have hg : O g' = some (0, 0) := q4 g' (by rw [e]; rfl)
  have hnp : ¬ ∃ t, O g' = some t ∧ P t := fun ⟨t, e1, e2⟩ => by rw [hg] at e1; injection e1 with e1; subst e1; exact hn e2
  refine ⟨⟨kk, ⟨g', n, cap, cs', fr, e, r1, (k.fr.block g' (lt_of_block r2) hnp).trans r2, isB_frZ r3 k.fr fun h0 z hz => by injection hz with hz; rw [← hz]; exact hnp⟩, q2⟩, ⟨d1, q3.byt⟩, fun g hg2 => ?_, d2⟩
  rw [e] at hg2
  simp only [Value.ownBlock, Option.some.injEq] at hg2
  subst hg2
  exact (k.tg _ (lt_of_block r2)).trans hg
theorem box_stp {P : Nat × Nat → Prop} {w w' : World} {O O' : Tg} {g : Nat} {t : TypeId} {cs : Array Value} (h : CbB w g t cs) (hO : O g = some (0, 0)) (k : Stp P w O w' O') (hn : ¬ P (0, 0)) : CbB w' g t cs ∧ O' g = some (0, 0) := by
  have := k.ot h.lt hO hn
  exact ⟨this.1.trans h, this.2⟩
end
/-! the plain law -/
end Go.Proofs.YtnnjmelibmiimaaGreat
namespace Go.Proofs.YtnnjmelibmiimaaGreat
open Go.RowKit
set_option linter.unusedVariables false
set_option linter.unusedSimpArgs false

/-- which tenant a call is of -/
def tenOf (c : CallP) : Nat :=
  if c.kind = 1 ∨ c.kind = 2 ∨ c.kind = 3 ∨ c.kind = 4 ∨ c.kind = 5 ∨ c.kind = 8 then c.ten else if c.kind = 6 ∨ c.kind = 7 then 0 else c.hd / 4294967296
/-- alike to one tenant -/
structure RelT (n : Nat) (T T' : List TnP) : Prop where
  nq : T.map (fun t => (t.n, t.q)) = T'.map fun t => (t.n, t.q)
  at_ : fndT T n = fndT T' n
theorem RelT.refl (n : Nat) (T : List TnP) : RelT n T T := ⟨rfl, rfl⟩
theorem RelT.ns {n : Nat} {T T' : List TnP} (h : RelT n T T') : T.map (·.n) = T'.map (·.n) := by
  have := congrArg (List.map (·.1)) h.nq
  rw [List.map_map, List.map_map] at this
  exact this
theorem RelT.qs {n : Nat} {T T' : List TnP} (h : RelT n T T') : T.map (fun t => (t.q : Int)) = T'.map fun t => (t.q : Int) := by
  have := congrArg (List.map fun p : Nat × Nat => (p.2 : Int)) h.nq
  rw [List.map_map, List.map_map] at this
  exact this
theorem fndT_some : ∀ (T : List TnP) (n : Nat), (fndT T n).isSome = decide (n ∈ T.map (·.n))
  | [], n => rfl
  | t :: r, n => by
    have ih := fndT_some r n
    unfold fndT at ih ⊢
    by_cases e : t.n = n
    · simp [e]
    · rw [List.find?_cons_of_neg (by simpa using e), ih]
      simp [Ne.symm e]
theorem RelT.som {n : Nat} {T T' : List TnP} (h : RelT n T T') (m : Nat) : (fndT T m).isSome = (fndT T' m).isSome := by rw [fndT_some, fndT_some, h.ns]
/-- what keeps a tenant's number and quota -/
def Keeps (f : TnP → CallP → AnsP × TnP) : Prop := ∀ t c, (f t c).2.n = t.n ∧ (f t c).2.q = t.q
theorem k_tur : Keeps turP := fun t c => by unfold turP; cases t.tu <;> exact ⟨rfl, rfl⟩
theorem k_stp : Keeps stpP := fun t c => by unfold stpP; split <;> exact ⟨rfl, rfl⟩
theorem k_fin : Keeps finP := fun t c => by unfold finP; split <;> exact ⟨rfl, rfl⟩
theorem k_att : Keeps attP := fun t c => by unfold attP; split <;> exact ⟨rfl, rfl⟩
theorem k_giv : Keeps givP := fun t c => by unfold givP; split <;> exact ⟨rfl, rfl⟩
theorem k_rev : Keeps revP := fun t c => by unfold revP; split <;> exact ⟨rfl, rfl⟩
theorem k_bat : Keeps batP := fun t c => by
  unfold batP
  split
  · exact ⟨rfl, rfl⟩
  · exact ⟨rfl, rfl⟩
  · unfold batQ
    cases overB (t.q : Int) (chg (doAll t.now c.ops)) (liveC t.sn) <;> exact ⟨rfl, rfl⟩
theorem k_get : Keeps getP := fun t c => by unfold getP; split <;> first | exact ⟨rfl, rfl⟩ | (split <;> exact ⟨rfl, rfl⟩)
theorem k_scn : Keeps scnP := fun t c => by unfold scnP; split <;> exact ⟨rfl, rfl⟩
theorem k_snp : Keeps snpP := fun t c => by
  unfold snpP snapQ
  cases overB (t.q : Int) (chg t.now) (liveC t.sn ++ [chg t.now]) <;> exact ⟨rfl, rfl⟩
theorem k_rel : Keeps relP := fun t c => by unfold relP; split <;> exact ⟨rfl, rfl⟩
theorem k_use : Keeps useP := fun t c => ⟨rfl, rfl⟩
theorem updT_nq {T : List TnP} {m : Nat} {t t' : TnP} (hn : (T.map (·.n)).Nodup) (hf : fndT T m = some t) (h1 : t'.n = t.n) (h2 : t'.q = t.q) : (updT m t' T).map (fun t => (t.n, t.q)) = T.map fun t => (t.n, t.q) := by
  unfold updT
  rw [List.map_map]
  refine List.map_congr_left fun x hx => ?_
  simp only [Function.comp]
  by_cases e : x.n = m
  · rw [if_pos e]
    have := fndT_of hn hx
    rw [e, hf] at this
    injection this with this
    subst this
    rw [h1, h2]
  · rw [if_neg e]
theorem updT_fnd : ∀ {T : List TnP} {m k : Nat} {t' : TnP}, t'.n = m → fndT (updT m t' T) k = if k = m then (fndT T m).map (fun _ => t') else fndT T k
  | [], m, k, t', h => by simp [fndT, updT]
  | x :: r, m, k, t', h => by
    have ih := updT_fnd (T := r) (m := m) (k := k) (t' := t') h
    unfold fndT updT at ih ⊢
    rw [List.map_cons]
    by_cases e : x.n = m
    · rw [if_pos e]
      by_cases e2 : k = m
      · subst e2
        simp [h, e]
      · rw [if_neg e2]
        have e3 : ¬ t'.n = k := by rw [h]; exact Ne.symm e2
        have e4 : ¬ x.n = k := by rw [e]; exact Ne.symm e2
        rw [List.find?_cons_of_neg (by simpa using e3), List.find?_cons_of_neg (by simpa using e4), ih, if_neg e2]
    · rw [if_neg e]
      by_cases e2 : k = m
      · subst e2
        rw [List.find?_cons_of_neg (by simpa using e), List.find?_cons_of_neg (by simpa using e), ih, if_pos rfl]
      · rw [if_neg e2] at ih ⊢
        by_cases e3 : x.n = k
        · simp [e3]
        · rw [List.find?_cons_of_neg (by simpa using e3), List.find?_cons_of_neg (by simpa using e3), ih]
section
variable {n : Nat} {T T' : List TnP} {c : CallP}
/-- another's call -/
theorem tenC1_oth (h : RelT n T T') (hn : (T.map (·.n)).Nodup) {f : TnP → CallP → AnsP × TnP} (hf : Keeps f) (hc : c.ten ≠ n) : RelT n (tenC1 T c f).2 T' := by
  unfold tenC1
  cases hx : fndT T c.ten with
  | none => exact h
  | some t =>
    have ht := (fndT_mem hx).2
    refine ⟨(updT_nq hn hx (hf t c).1 (hf t c).2).trans h.nq, ?_⟩
    rw [updT_fnd ((hf t c).1.trans ht), if_neg (Ne.symm hc)]
    exact h.at_
theorem tenH1_oth (h : RelT n T T') (hn : (T.map (·.n)).Nodup) {f : TnP → CallP → AnsP × TnP} (hf : Keeps f) (nd : Nat) (hc : c.hd / 4294967296 ≠ n) : RelT n (tenH1 T c nd f).2 T' := by
  unfold tenH1
  cases hx : fndT T (c.hd / 4294967296) with
  | none => exact h
  | some t =>
    have ht := (fndT_mem hx).2
    simp only
    split
    · refine ⟨(updT_nq hn hx (hf t c).1 (hf t c).2).trans h.nq, ?_⟩
      rw [updT_fnd ((hf t c).1.trans ht), if_neg (Ne.symm hc)]
      exact h.at_
    · exact h
/-- one's own -/
theorem tenC1_own (h : RelT n T T') (hn : (T.map (·.n)).Nodup) {f : TnP → CallP → AnsP × TnP} (hf : Keeps f) (hc : c.ten = n) : (tenC1 T c f).1 = (tenC1 T' c f).1 ∧ RelT n (tenC1 T c f).2 (tenC1 T' c f).2 := by
  have hn' : (T'.map (·.n)).Nodup := h.ns ▸ hn
  subst hc
  have ha := h.at_
  unfold tenC1
  cases hx : fndT T c.ten with
  | none => rw [hx] at ha; rw [← ha]; exact ⟨rfl, h⟩
  | some t =>
    rw [hx] at ha
    rw [← ha]
    have ht := (fndT_mem hx).2
    refine ⟨rfl, ((updT_nq hn hx (hf t c).1 (hf t c).2).trans h.nq).trans (updT_nq hn' ha.symm (hf t c).1 (hf t c).2).symm, ?_⟩
    rw [updT_fnd ((hf t c).1.trans ht), updT_fnd ((hf t c).1.trans ht), hx, ← ha]
theorem tenH1_own (h : RelT n T T') (hn : (T.map (·.n)).Nodup) {f : TnP → CallP → AnsP × TnP} (hf : Keeps f) (nd : Nat) (hc : c.hd / 4294967296 = n) : (tenH1 T c nd f).1 = (tenH1 T' c nd f).1 ∧ RelT n (tenH1 T c nd f).2 (tenH1 T' c nd f).2 := by
  have hn' : (T'.map (·.n)).Nodup := h.ns ▸ hn
  subst hc
  have ha := h.at_
  unfold tenH1
  cases hx : fndT T (c.hd / 4294967296) with
  | none => rw [hx] at ha; rw [← ha]; exact ⟨rfl, h⟩
  | some t =>
    rw [hx] at ha
    rw [← ha]
    have ht := (fndT_mem hx).2
    simp only
    split
    · refine ⟨rfl, ((updT_nq hn hx (hf t c).1 (hf t c).2).trans h.nq).trans (updT_nq hn' ha.symm (hf t c).1 (hf t c).2).symm, ?_⟩
      rw [updT_fnd ((hf t c).1.trans ht), updT_fnd ((hf t c).1.trans ht), hx, ← ha]
    · exact ⟨rfl, h⟩
theorem fndT_app {T : List TnP} {t : TnP} {n : Nat} : fndT (T ++ [t]) n = match fndT T n with | some x => some x | none => if t.n = n then some t else none := by
  unfold fndT
  rw [List.find?_append]
  cases hx : T.find? (fun t => decide (t.n = n)) with
  | some x => rfl
  | none => by_cases e : t.n = n <;> simp [e]
theorem fndT_fil (T : List TnP) (m n : Nat) : fndT (T.filter fun t => !decide (t.n = m)) n = if n = m then none else fndT T n := by
  unfold fndT
  by_cases e : n = m
  · subst e
    rw [if_pos rfl, List.find?_eq_none]
    intro x hx
    have := (List.mem_filter.1 hx).2
    simpa using this
  · rw [if_neg e]
    induction T with
    | nil => rfl
    | cons t r ih =>
      by_cases e2 : t.n = m
      · rw [List.filter_cons_of_neg (by simpa using e2), ih, List.find?_cons_of_neg (by simp; rw [e2]; exact Ne.symm e)]
      · rw [List.filter_cons_of_pos (by simpa using e2)]
        by_cases e3 : t.n = n
        · simp [e3]
        · rw [List.find?_cons_of_neg (by simpa using e3), List.find?_cons_of_neg (by simpa using e3), ih]
theorem map_fil {T T' : List TnP} (m : Nat) (h : T.map (fun t => (t.n, t.q)) = T'.map fun t => (t.n, t.q)) : (T.filter fun t => !decide (t.n = m)).map (fun t => (t.n, t.q)) = (T'.filter fun t => !decide (t.n = m)).map fun t => (t.n, t.q) := by
  have e : ∀ X : List TnP, (X.filter fun t => !decide (t.n = m)).map (fun t => (t.n, t.q)) = (X.map fun t => (t.n, t.q)).filter fun p => !decide (p.1 = m) := fun X => by rw [List.filter_map]; rfl
  rw [e, e, h]
theorem cre_own (h : RelT n T T') (bk : Nat) : (creP bk T c).1 = (creP bk T' c).1 ∧ RelT n (creP bk T c).2 (creP bk T' c).2 := by
  unfold creP
  split
  · exact ⟨rfl, h⟩
  · exact ⟨rfl, h⟩
  · exact ⟨rfl, h⟩
  · exact ⟨rfl, h⟩
  · have hs := h.som c.ten
    cases hx : fndT T c.ten with
    | some t =>
      rw [hx] at hs
      cases hy : fndT T' c.ten with
      | some t' => exact ⟨rfl, h⟩
      | none => rw [hy] at hs; cases hs
    | none =>
      rw [hx] at hs
      cases hy : fndT T' c.ten with
      | some t' => rw [hy] at hs; cases hs
      | none =>
        simp only
        rw [h.qs]
        refine ⟨rfl, ?_⟩
        cases fitsQ (bk : Int) (c.quota :: T'.map fun t => (t.q : Int)) with
        | false => exact h
        | true =>
          refine ⟨by simp only [cond_true, List.map_append, h.nq], ?_⟩
          simp only [cond_true]
          rw [fndT_app, fndT_app, h.at_]
theorem rem_own (h : RelT n T T') : (remP T c).1 = (remP T' c).1 ∧ RelT n (remP T c).2 (remP T' c).2 := by
  unfold remP
  have hs := h.som c.ten
  cases hx : fndT T c.ten with
  | none =>
    rw [hx] at hs
    cases hy : fndT T' c.ten with
    | some t' => rw [hy] at hs; cases hs
    | none => exact ⟨rfl, h⟩
  | some t =>
    rw [hx] at hs
    cases hy : fndT T' c.ten with
    | none => rw [hy] at hs; cases hs
    | some t' =>
      refine ⟨rfl, map_fil _ h.nq, ?_⟩
      simp only
      rw [fndT_fil, fndT_fil, h.at_]
theorem step_oth (h : RelT n T T') (hn : (T.map (·.n)).Nodup) (bk : Nat) (h1 : c.kind ≠ 1) (h2 : c.kind ≠ 2) (ht : tenOf c ≠ n) : RelT n (stepP bk T c).2 T' := by
  unfold tenOf at ht
  unfold stepP
  rw [if_neg h1, if_neg h2]
  by_cases e3 : c.kind = 3
  · rw [if_pos e3]; exact tenC1_oth h hn k_tur (by rwa [if_pos (by omega)] at ht)
  rw [if_neg e3]
  by_cases e4 : c.kind = 4
  · rw [if_pos e4]; exact tenC1_oth h hn k_stp (by rwa [if_pos (by omega)] at ht)
  rw [if_neg e4]
  by_cases e5 : c.kind = 5
  · rw [if_pos e5]; exact tenC1_oth h hn k_fin (by rwa [if_pos (by omega)] at ht)
  rw [if_neg e5]
  by_cases e6 : c.kind = 6
  · rw [if_pos e6]; exact h
  rw [if_neg e6]
  by_cases e7 : c.kind = 7
  · rw [if_pos e7]; exact h
  rw [if_neg e7]
  by_cases e8 : c.kind = 8
  · rw [if_pos e8]; exact tenC1_oth h hn k_att (by rwa [if_pos (by omega)] at ht)
  rw [if_neg e8]
  have hh : c.hd / 4294967296 ≠ n := by rwa [if_neg (by omega), if_neg (by omega)] at ht
  repeat' split
  · exact tenH1_oth h hn k_giv 0 hh
  · exact tenH1_oth h hn k_rev 0 hh
  · exact tenH1_oth h hn k_bat 2 hh
  · exact tenH1_oth h hn k_get 1 hh
  · exact tenH1_oth h hn k_scn 1 hh
  · exact tenH1_oth h hn k_snp 4 hh
  · exact tenH1_oth h hn k_rel 4 hh
  · exact tenH1_oth h hn k_use 1 hh
  · exact h
theorem step_own (h : RelT n T T') (hn : (T.map (·.n)).Nodup) (bk : Nat) (ht : tenOf c = n ∨ c.kind = 1 ∨ c.kind = 2) : (stepP bk T c).1 = (stepP bk T' c).1 ∧ RelT n (stepP bk T c).2 (stepP bk T' c).2 := by
  unfold stepP
  by_cases e1 : c.kind = 1
  · rw [if_pos e1, if_pos e1]; exact cre_own h bk
  rw [if_neg e1, if_neg e1]
  by_cases e2 : c.kind = 2
  · rw [if_pos e2, if_pos e2]; exact rem_own h
  rw [if_neg e2, if_neg e2]
  have ht : tenOf c = n := ht.elim id fun h => h.elim (fun h => absurd h e1) fun h => absurd h e2
  unfold tenOf at ht
  by_cases e3 : c.kind = 3
  · rw [if_pos e3, if_pos e3]; exact tenC1_own h hn k_tur (by rwa [if_pos (by omega)] at ht)
  rw [if_neg e3, if_neg e3]
  by_cases e4 : c.kind = 4
  · rw [if_pos e4, if_pos e4]; exact tenC1_own h hn k_stp (by rwa [if_pos (by omega)] at ht)
  rw [if_neg e4, if_neg e4]
  by_cases e5 : c.kind = 5
  · rw [if_pos e5, if_pos e5]; exact tenC1_own h hn k_fin (by rwa [if_pos (by omega)] at ht)
  rw [if_neg e5, if_neg e5]
  by_cases e6 : c.kind = 6
  · rw [if_pos e6, if_pos e6]; exact ⟨rfl, h⟩
  rw [if_neg e6, if_neg e6]
  by_cases e7 : c.kind = 7
  · rw [if_pos e7, if_pos e7, h.ns]; exact ⟨rfl, h⟩
  rw [if_neg e7, if_neg e7]
  by_cases e8 : c.kind = 8
  · rw [if_pos e8, if_pos e8]; exact tenC1_own h hn k_att (by rwa [if_pos (by omega)] at ht)
  rw [if_neg e8, if_neg e8]
  have hh : c.hd / 4294967296 = n := by rwa [if_neg (by omega), if_neg (by omega)] at ht
  by_cases e9 : c.kind = 9
  · rw [if_pos e9, if_pos e9]; exact tenH1_own h hn k_giv 0 hh
  rw [if_neg e9, if_neg e9]
  by_cases e10 : c.kind = 10
  · rw [if_pos e10, if_pos e10]; exact tenH1_own h hn k_rev 0 hh
  rw [if_neg e10, if_neg e10]
  by_cases e11 : c.kind = 11
  · rw [if_pos e11, if_pos e11]; exact tenH1_own h hn k_bat 2 hh
  rw [if_neg e11, if_neg e11]
  by_cases e12 : c.kind = 12
  · rw [if_pos e12, if_pos e12]; exact tenH1_own h hn k_get 1 hh
  rw [if_neg e12, if_neg e12]
  by_cases e13 : c.kind = 13
  · rw [if_pos e13, if_pos e13]; exact tenH1_own h hn k_scn 1 hh
  rw [if_neg e13, if_neg e13]
  by_cases e14 : c.kind = 14
  · rw [if_pos e14, if_pos e14]; exact tenH1_own h hn k_snp 4 hh
  rw [if_neg e14, if_neg e14]
  by_cases e15 : c.kind = 15
  · rw [if_pos e15, if_pos e15]; exact tenH1_own h hn k_rel 4 hh
  rw [if_neg e15, if_neg e15]
  by_cases e16 : c.kind = 16
  · rw [if_pos e16, if_pos e16]; exact tenH1_own h hn k_use 1 hh
  rw [if_neg e16, if_neg e16]
  exact ⟨rfl, h⟩
end
/-! what the number of calls bounds -/
def Grows (f : TnP → CallP → AnsP × TnP) : Prop := ∀ k t c, c.ops.length = c.oN → LimK k t → LimK (k + 1) (f t c).2
theorem LimK.up {k m : Nat} {t : TnP} (h : LimK k t) (hk : k ≤ m) : LimK m t := ⟨by have := h.now; omega, by have := h.sn; omega, fun p hp => by have := h.sns p hp; omega, by have := h.A; omega⟩
theorem putH_len (A : HL) (r u : Nat) : (putH A r u).2.length ≤ A.length + 1 := by
  unfold putH
  split <;> simp
theorem giveH_len (A : HL) (h r : Nat) : (giveH A h r).2.length ≤ A.length + 1 := by
  unfold giveH
  split
  · exact Nat.le_succ _
  · next x _ =>
    cases noGive x.r || overR r x.r
    · exact putH_len _ _ _
    · exact Nat.le_succ _
theorem revokeH_len (A : HL) (h v : Nat) : (revokeH A h v).2.length = A.length := by
  unfold revokeH
  split
  · rfl
  · next x _ =>
    split
    · rfl
    · cases mayRv A x h v
      · rfl
      · simp [killH]
theorem g_tur : Grows turP := fun k t c _ h => by unfold turP; have h := h.up (Nat.le_succ k); cases t.tu <;> exact ⟨h.now, h.sn, h.sns, h.A⟩
theorem g_stp : Grows stpP := fun k t c _ h => by unfold stpP; have h := h.up (Nat.le_succ k); split <;> exact h
theorem g_fin : Grows finP := fun k t c _ h => by unfold finP; have h := h.up (Nat.le_succ k); split <;> exact ⟨h.now, h.sn, h.sns, h.A⟩
theorem g_setA {k : Nat} {t : TnP} {A : HL} (h : LimK k t) (hA : A.length ≤ t.A.length + 1) : LimK (k + 1) (setA t A) := by
  have h9 := h.A
  have h := h.up (Nat.le_succ k)
  exact ⟨h.now, h.sn, h.sns, by show A.length ≤ _; omega⟩
theorem g_att : Grows attP := fun k t c _ h => by
  unfold attP
  have h1 : LimK (k + 1) (attT t) := g_setA (A := (putH t.A 15 0).2) h (putH_len _ _ _)
  have h := h.up (Nat.le_succ k)
  split
  · exact h
  · exact h1
  · exact h1
theorem g_giv : Grows givP := fun k t c _ h => by
  unfold givP
  have h1 := g_setA (A := (giveH t.A (c.hd % 4294967296) c.rt).2) h (giveH_len _ _ _)
  split <;> exact h1
theorem g_rev : Grows revP := fun k t c _ h => by
  unfold revP
  have h1 := g_setA (A := (revokeH t.A (c.hd % 4294967296) (c.oth % 4294967296)).2) h (by rw [revokeH_len]; omega)
  have h := h.up (Nat.le_succ k)
  split
  · exact h
  · exact h1
theorem g_bat : Grows batP := fun k t c hl h => by
  unfold batP
  have h2 := h.up (Nat.le_succ k)
  split
  · exact h2
  · exact h2
  · next h3 _ =>
    unfold batQ
    cases overB (t.q : Int) (chg (doAll t.now c.ops)) (liveC t.sn) with
    | true => exact h2
    | false =>
      refine ⟨?_, h2.sn, h2.sns, h2.A⟩
      show (doAll t.now c.ops).length ≤ _
      have h4 := doAll_len c.ops t.now
      have h5 := h.now
      have h6 : ¬ 100 < c.oN := of_decide_eq_false h3
      omega
theorem g_get : Grows getP := fun k t c _ h => by have h := h.up (Nat.le_succ k); unfold getP; split <;> first | exact h | (split <;> exact h)
theorem g_scn : Grows scnP := fun k t c _ h => by have h := h.up (Nat.le_succ k); unfold scnP; split <;> exact h
theorem g_snp : Grows snpP := fun k t c _ h => by
  unfold snpP snapQ
  have h2 := h.up (Nat.le_succ k)
  cases overB (t.q : Int) (chg t.now) (liveC t.sn ++ [chg t.now]) with
  | true => exact h2
  | false =>
    refine ⟨h2.now, by show (t.sn ++ [(t.now, false)]).length ≤ _; have := h.sn; simp; omega, fun p hp => ?_, h2.A⟩
    rcases List.mem_append.1 hp with hp | hp
    · exact h2.sns p hp
    · simp only [List.mem_singleton] at hp
      subst hp
      exact h2.now
theorem g_rel : Grows relP := fun k t c _ h => by
  have h := h.up (Nat.le_succ k)
  unfold relP
  split
  · exact h
  · refine ⟨h.now, ?_, fun p hp => ?_, h.A⟩
    · show (relL t.sn c.sn).length ≤ _
      have : (relL t.sn c.sn).length = t.sn.length := by unfold relL; split <;> simp
      rw [this]
      exact h.sn
    · have hp : p ∈ relL t.sn c.sn := hp
      unfold relL at hp
      split at hp
      · next q hq =>
        rcases List.mem_or_eq_of_mem_set hp with h1 | h1
        · exact h.sns p h1
        · subst h1
          exact h.sns q (List.mem_of_getElem? hq)
      · exact h.sns p hp
theorem g_use : Grows useP := fun k t c _ h => h.up (Nat.le_succ k)
/-- the sixteen ways -/
theorem step_ind {Q : AnsP × List TnP → Prop} (bk : Nat) {T : List TnP} {c : CallP} (h1 : Q (creP bk T c)) (h2 : Q (remP T c)) (h3 : Q (tenC1 T c turP)) (h4 : Q (tenC1 T c stpP)) (h5 : Q (tenC1 T c finP)) (h6 : Q (errA 0, T)) (h7 : Q (lstA (U32.srt (T.map (·.n))), T))
    (h8 : Q (tenC1 T c attP)) (h9 : Q (tenH1 T c 0 givP)) (h10 : Q (tenH1 T c 0 revP)) (h11 : Q (tenH1 T c 2 batP)) (h12 : Q (tenH1 T c 1 getP)) (h13 : Q (tenH1 T c 1 scnP)) (h14 : Q (tenH1 T c 4 snpP)) (h15 : Q (tenH1 T c 4 relP)) (h16 : Q (tenH1 T c 1 useP)) (h17 : Q (errA 2, T)) : Q (stepP bk T c) := by
  unfold stepP
  by_cases e1 : c.kind = 1
  · rw [if_pos e1]; exact h1
  rw [if_neg e1]
  by_cases e2 : c.kind = 2
  · rw [if_pos e2]; exact h2
  rw [if_neg e2]
  by_cases e3 : c.kind = 3
  · rw [if_pos e3]; exact h3
  rw [if_neg e3]
  by_cases e4 : c.kind = 4
  · rw [if_pos e4]; exact h4
  rw [if_neg e4]
  by_cases e5 : c.kind = 5
  · rw [if_pos e5]; exact h5
  rw [if_neg e5]
  by_cases e6 : c.kind = 6
  · rw [if_pos e6]; exact h6
  rw [if_neg e6]
  by_cases e7 : c.kind = 7
  · rw [if_pos e7]; exact h7
  rw [if_neg e7]
  by_cases e8 : c.kind = 8
  · rw [if_pos e8]; exact h8
  rw [if_neg e8]
  by_cases e9 : c.kind = 9
  · rw [if_pos e9]; exact h9
  rw [if_neg e9]
  by_cases e10 : c.kind = 10
  · rw [if_pos e10]; exact h10
  rw [if_neg e10]
  by_cases e11 : c.kind = 11
  · rw [if_pos e11]; exact h11
  rw [if_neg e11]
  by_cases e12 : c.kind = 12
  · rw [if_pos e12]; exact h12
  rw [if_neg e12]
  by_cases e13 : c.kind = 13
  · rw [if_pos e13]; exact h13
  rw [if_neg e13]
  by_cases e14 : c.kind = 14
  · rw [if_pos e14]; exact h14
  rw [if_neg e14]
  by_cases e15 : c.kind = 15
  · rw [if_pos e15]; exact h15
  rw [if_neg e15]
  by_cases e16 : c.kind = 16
  · rw [if_pos e16]; exact h16
  rw [if_neg e16]
  exact h17
section
variable {k : Nat} {T : List TnP} {c : CallP}
/-- the store's bounds -/
structure LimT2 (k : Nat) (T : List TnP) : Prop where
  all : ∀ t ∈ T, LimK k t
  len : T.length ≤ k
theorem LimT2.up {m : Nat} (h : LimT2 k T) (hk : k ≤ m) : LimT2 m T := ⟨fun t ht => (h.all t ht).up hk, by have := h.len; omega⟩
theorem upd_lim (h : LimT2 k T) {m : Nat} {t' : TnP} (ht : LimK (k + 1) t') : LimT2 (k + 1) (updT m t' T) := ⟨fun x hx => by
  obtain ⟨y, hy, rfl⟩ := List.mem_map.1 hx
  by_cases e : y.n = m
  · rw [if_pos e]; exact ht
  · rw [if_neg e]; exact (h.all y hy).up (Nat.le_succ k), by unfold updT; rw [List.length_map]; have := h.len; omega⟩
theorem tenC1_lim (h : LimT2 k T) (hl : c.ops.length = c.oN) {f : TnP → CallP → AnsP × TnP} (hf : Grows f) : LimT2 (k + 1) (tenC1 T c f).2 := by
  unfold tenC1
  cases hx : fndT T c.ten with
  | none => exact h.up (Nat.le_succ k)
  | some t => exact upd_lim h (hf k t c hl (h.all t (fndT_mem hx).1))
theorem tenH1_lim (h : LimT2 k T) (hl : c.ops.length = c.oN) {f : TnP → CallP → AnsP × TnP} (hf : Grows f) (nd : Nat) : LimT2 (k + 1) (tenH1 T c nd f).2 := by
  unfold tenH1
  cases hx : fndT T (c.hd / 4294967296) with
  | none => exact h.up (Nat.le_succ k)
  | some t =>
    simp only
    split
    · exact upd_lim h (hf k t c hl (h.all t (fndT_mem hx).1))
    · exact h.up (Nat.le_succ k)
theorem cre_lim (h : LimT2 k T) (bk : Nat) : LimT2 (k + 1) (creP bk T c).2 := by
  have h2 := h.up (Nat.le_succ k)
  unfold creP
  split
  · exact h2
  · exact h2
  · exact h2
  · exact h2
  · cases fndT T c.ten with
    | some t => exact h2
    | none =>
      simp only
      cases fitsQ (bk : Int) (c.quota :: T.map fun t => (t.q : Int)) with
      | false => exact h2
      | true =>
        simp only [cond_true]
        refine ⟨fun t ht => ?_, by have := h.len; simp; omega⟩
        rcases List.mem_append.1 ht with ht | ht
        · exact h2.all t ht
        · simp only [List.mem_singleton] at ht
          subst ht
          exact ⟨Nat.zero_le _, Nat.zero_le _, fun p hp => (by cases hp), Nat.zero_le _⟩
theorem rem_lim (h : LimT2 k T) : LimT2 (k + 1) (remP T c).2 := by
  have h2 := h.up (Nat.le_succ k)
  unfold remP
  cases fndT T c.ten with
  | none => exact h2
  | some t => exact ⟨fun t ht => h2.all t (List.mem_filter.1 ht).1, by have := h.len; have := List.length_filter_le (fun t => !decide (t.n = c.ten)) T; show (T.filter fun t => !decide (t.n = c.ten)).length ≤ _; omega⟩
theorem step_lim (h : LimT2 k T) (hl : c.ops.length = c.oN) (bk : Nat) : LimT2 (k + 1) (stepP bk T c).2 := by
  have h2 := h.up (Nat.le_succ k)
  exact step_ind (Q := fun x => LimT2 (k + 1) x.2) bk (cre_lim h bk) (rem_lim h) (tenC1_lim h hl g_tur) (tenC1_lim h hl g_stp) (tenC1_lim h hl g_fin) h2 h2 (tenC1_lim h hl g_att) (tenH1_lim h hl g_giv 0) (tenH1_lim h hl g_rev 0) (tenH1_lim h hl g_bat 2) (tenH1_lim h hl g_get 1) (tenH1_lim h hl g_scn 1) (tenH1_lim h hl g_snp 4) (tenH1_lim h hl g_rel 4) (tenH1_lim h hl g_use 1) h2
/-- what an answer tells is not long -/
structure AnsL (a : AnsP) : Prop where
  prs : a.prs.length ≤ 1000000
  lst : a.lst.length ≤ 1000000
theorem ansL_err (e : Int) : AnsL (errA e) := ⟨Nat.zero_le _, Nat.zero_le _⟩
theorem ansL_hd (e : Nat) : AnsL (hdA e) := ⟨Nat.zero_le _, Nat.zero_le _⟩
def Short (f : TnP → CallP → AnsP × TnP) : Prop := ∀ t c, AnsL (f t c).1
theorem s_tur : Short turP := fun t c => by unfold turP; cases t.tu <;> exact ansL_err _
theorem s_stp : Short stpP := fun t c => by unfold stpP; split <;> exact ansL_err _
theorem s_fin : Short finP := fun t c => by unfold finP; split <;> exact ansL_err _
theorem s_att : Short attP := fun t c => by unfold attP; split <;> first | exact ansL_err _ | exact ansL_hd _
theorem s_giv : Short givP := fun t c => by unfold givP; split <;> first | exact ansL_err _ | exact ansL_hd _
theorem s_rev : Short revP := fun t c => by unfold revP; split <;> exact ansL_err _
theorem s_bat : Short batP := fun t c => by
  unfold batP
  split
  · exact ansL_err _
  · exact ansL_err _
  · unfold batA
    cases overB (t.q : Int) (chg (doAll t.now c.ops)) (liveC t.sn) <;> exact ansL_err _
theorem s_get : Short getP := fun t c => by unfold getP; split <;> first | exact ansL_err _ | (split <;> exact ⟨Nat.zero_le _, Nat.zero_le _⟩)
theorem s_scn : Short scnP := fun t c => by
  unfold scnP
  split
  · exact ansL_err _
  · exact ansL_err _
  · exact ansL_err _
  · next h1 h2 _ =>
    refine ⟨?_, Nat.zero_le _⟩
    show (prsK _ (scanK c _)).length ≤ _
    unfold prsK
    rw [List.length_map]
    unfold scanK
    have h3 : ¬ (100 : Int) < c.n := of_decide_eq_false h2
    exact Nat.le_trans (List.length_take_le _ _) (by omega)
theorem s_snp : Short snpP := fun t c => by
  unfold snpP snapA
  cases overB (t.q : Int) (chg t.now) (liveC t.sn ++ [chg t.now]) <;> exact ⟨Nat.zero_le _, Nat.zero_le _⟩
theorem s_rel : Short relP := fun t c => by unfold relP; split <;> exact ansL_err _
theorem s_use : Short useP := fun t c => ⟨Nat.zero_le _, Nat.zero_le _⟩
theorem tenC1_sh {f : TnP → CallP → AnsP × TnP} (hf : Short f) : AnsL (tenC1 T c f).1 := by
  unfold tenC1
  split
  · exact ansL_err _
  · exact hf _ _
theorem tenH1_sh {f : TnP → CallP → AnsP × TnP} (hf : Short f) (nd : Nat) : AnsL (tenH1 T c nd f).1 := by
  unfold tenH1
  split
  · exact ansL_err _
  · split
    · exact hf _ _
    · exact ansL_err _
theorem cre_sh (bk : Nat) : AnsL (creP bk T c).1 := by
  unfold creP
  split
  · exact ansL_err _
  · exact ansL_err _
  · exact ansL_err _
  · exact ansL_err _
  · cases fndT T c.ten with
    | some t => exact ansL_err _
    | none =>
      simp only
      cases fitsQ (bk : Int) (c.quota :: T.map fun t => (t.q : Int)) <;> exact ansL_err _
theorem step_sh (h : T.length ≤ 1000000) (bk : Nat) : AnsL (stepP bk T c).1 :=
  step_ind (Q := fun x => AnsL x.1) bk (cre_sh bk) (by unfold remP; cases fndT T c.ten <;> exact ansL_err _) (tenC1_sh s_tur) (tenC1_sh s_stp) (tenC1_sh s_fin) (ansL_err _)
    ⟨Nat.zero_le _, by
      show (U32.srt (T.map (·.n))).length ≤ _
      unfold U32.srt
      rw [List.length_mergeSort, List.length_map]
      exact h⟩ (tenC1_sh s_att) (tenH1_sh s_giv 0) (tenH1_sh s_rev 0) (tenH1_sh s_bat 2) (tenH1_sh s_get 1) (tenH1_sh s_scn 1) (tenH1_sh s_snp 4) (tenH1_sh s_rel 4) (tenH1_sh s_use 1) (ansL_err _)
end
end Go.Proofs.YtnnjmelibmiimaaGreat
