/-
  IDEAL: a store that is not there; known: the walks.
-/
import Derived.Test.YtnnjmelibmiimaaGreatBdn
import Derived.Test.YtnnjmelibmiimaaGreatBdv
import Derived.Test.YtnnjmelibmiimaaGreatBdq
import Derived.Test.YtnnjmelibmiimaaGreatBdw
namespace Go.Proofs.YtnnjmelibmiimaaGreat
open Go.RowKit
set_option linter.unusedVariables false
set_option linter.unusedSimpArgs false

section
variable {w : World} {O : Tg} {s blocks m : Nat} {T : List TnP} {bs : List (Nat × TnP)} {c : CallP}
set_option maxRecDepth 100000 in
theorem map_none (po : Option Addr) (n : Nat) (hn : ∀ W, Below w.heap.size w W → Calls Tryz.prog 25 #[.pointer po] W fun r w' => r = .returned (.bool true) ∧ W = w') : Calls Tryz.prog 22 #[.pointer po, .int .u32 (n : Int)] w fun e w' => e = .returned (.tuple #[.slice none 0 0, .int .i64 1]) ∧ w = w' := by
  have HN := Lib.hid (hn w (Below.refl _ _))
  clear hn
  go_enter Tryz.func22, Tryz.ntmps22
  go_wp2_with fail
  refine HN.out.mono ?_
  rintro e w1 ⟨rfl, rfl⟩
  go_wp2_with fail
  go_ret2
  exact ⟨rfl, rfl⟩
end
/-! known -/
/-- a store that the law has made, and nothing else turned -/
structure KnS (w0 : World) (s : Nat) (T : List TnP) (W : World) (O : Tg) : Prop where
  ib : IdB W O s 100 T
  bl : Below w0.heap.size w0 W
  no : ∀ k, k < w0.heap.size → O k = none
section
variable {w0 W W2 : World} {O O2 : Tg} {s : Nat} {T T2 : List TnP}
theorem KnS.ab (h : KnS w0 s T W O) (hb : Below W.heap.size W W2) : KnS w0 s T W2 (cutTg O W.heap.size) := by
  have st : Stp (fun _ => False) W O W2 (cutTg O W.heap.size) := Stp.cut hb _
  refine ⟨h.ib.stp st fun _ h => h, below_tr h.bl hb h.bl.size, fun k hk => ?_⟩
  rw [st.tg k (Nat.lt_of_lt_of_le hk h.bl.size)]
  exact h.no k hk
theorem KnS.step (h : KnS w0 s T W O) {a : AnsP} {e : Ending} (k : DoR s 100 W O a T2 e W2) : ∃ cs O2, e = .returned (.agg cs) ∧ AnsB W2 W.heap.size O2 cs a ∧ KnS w0 s T2 W2 O2 ∧ Stp (fun τ => τ.1 = s) W O W2 O2 := by
  obtain ⟨cs, O2, e1, an, ib, st⟩ := k
  exact ⟨cs, O2, e1, an, ⟨ib, st.below h.bl h.bl.size h.no, fun k hk => (st.tg k (Nat.lt_of_lt_of_le hk h.bl.size)).trans (h.no k hk)⟩, st⟩
theorem idM_one {t : TnP} {m : Nat} {bs : List (Nat × TnP)} (h : IdM W O s 100 [t] m bs) : ∃ b, bs = [(b, t)] := by
  have h1 := List.perm_singleton.1 h.prm
  cases bs with
  | nil => simp at h1
  | cons p r =>
    cases r with
    | nil =>
      obtain ⟨b, t'⟩ := p
      simp at h1
      subst h1
      exact ⟨b, rfl⟩
    | cons q r => simp at h1
theorem AnsB.err {C : Nat} {cs : Array Value} {a : AnsP} (h : AnsB W C O cs a) : ∃ A1 n1 c1 A2 n2 c2 A3 n3 c3, cs = #[.int .i64 a.err, .int .u64 (a.hd : Int), .int .u64 (a.sn : Int), .slice A1 n1 c1, .slice A2 n2 c2, .int .i64 a.cnt, .slice A3 n3 c3] ∧ OwB W C (.slice A1 n1 c1) a.val := by
  obtain ⟨⟨v, p, l, h1, h2, h3, ⟨vs, p1, p2, p3, p4⟩, h5, h6⟩⟩ := h
  obtain ⟨A1, n1, c1, rfl⟩ := row_sl h2.own
  obtain ⟨A2, n2, c2, rfl⟩ := row_sl p1
  obtain ⟨A3, n3, c3, rfl⟩ := row_sl h5
  exact ⟨_, _, _, _, _, _, _, _, _, h1, h2⟩
/-- a field of an answer -/
theorem run_fieldA (e : Int) (h sn : Int) (n : Int) (A1 : Option Addr) (n1 c1 : Nat) (A2 : Option Addr) (n2 c2 : Nat) (A3 : Option Addr) (n3 c3 : Nat) (k : Nat) (v : Value) (hk : (#[.int .i64 e, .int .u64 h, .int .u64 sn, .slice A1 n1 c1, .slice A2 n2 c2, .int .i64 n, .slice A3 n3 c3] : Array Value)[k]? = some v) (w : World) :
    (Instr.field 40 (.agg #[.int .i64 e, .int .u64 h, .int .u64 sn, .slice A1 n1 c1, .slice A2 n2 c2, .int .i64 n, .slice A3 n3 c3]) k).run Tryz.prog w = .ok v w := by
  rcases k with _ | _ | _ | _ | _ | _ | _ | k
  all_goals (simp at hk; try subst hk)
  all_goals kernel_rfl
theorem KnS.pos (h : KnS w0 s T W O) : 0 < s := by obtain ⟨m, bs, h⟩ := h.ib; exact h.pos
end
def nilA : SlA := ⟨none, 0, 0, []⟩
/-- the four calls -/
def kn1 (g : Nat) : CallP := ⟨1, 1, ⟨some ⟨g, 0, none⟩, 16, 16, List.replicate 16 97⟩, 10, 0, 0, 0, 0, 0, none, 0, 0, [], nilA, nilA, nilA, false⟩
def kn2 (g : Nat) : CallP := ⟨8, 1, ⟨some ⟨g, 0, none⟩, 16, 16, List.replicate 16 97⟩, 0, 0, 0, 0, 0, 0, none, 0, 0, [], nilA, nilA, nilA, false⟩
def opK (g1 g2 : Nat) : OpP := ⟨⟨some ⟨g1, 0, none⟩, 1, 1, [107]⟩, ⟨some ⟨g2, 0, none⟩, 1, 1, [50]⟩, false⟩
def kn3 (g g1 g2 : Nat) : CallP := ⟨11, 0, nilA, 0, 0, 4294967297, 0, 0, 0, some ⟨g, 0, none⟩, 1, 1, [opK g1 g2], nilA, nilA, nilA, false⟩
def kn4 (g : Nat) : CallP := ⟨12, 0, nilA, 0, 0, 4294967297, 0, 0, 0, none, 0, 0, [], ⟨some ⟨g, 0, none⟩, 1, 1, [107]⟩, nilA, nilA, false⟩
def kt1 : TnP := ⟨1, List.replicate 16 97, 10, [], [], [], false⟩
def kt2 : TnP := ⟨1, List.replicate 16 97, 10, [], [⟨15, 0, true⟩], [], false⟩
def kt3 : TnP := ⟨1, List.replicate 16 97, 10, [(k8 [107], [50])], [⟨15, 0, true⟩], [], false⟩
theorem kn1_ok (g : Nat) : (kn1 g).Ok := ⟨(show ckOk 1 from rfl), (show 1 < 4294967296 by decide), (show 0 < 18446744073709551616 by decide), (show 0 < 18446744073709551616 by decide), (show 0 < 18446744073709551616 by decide), (show 0 < 256 by decide)⟩
theorem kn2_ok (g : Nat) : (kn2 g).Ok := ⟨(show ckOk 8 from rfl), (show 1 < 4294967296 by decide), (show 0 < 18446744073709551616 by decide), (show 0 < 18446744073709551616 by decide), (show 0 < 18446744073709551616 by decide), (show 0 < 256 by decide)⟩
theorem kn3_ok (g g1 g2 : Nat) : (kn3 g g1 g2).Ok := ⟨(show ckOk 11 from rfl), (show 0 < 4294967296 by decide), (show 4294967297 < 18446744073709551616 by decide), (show 0 < 18446744073709551616 by decide), (show 0 < 18446744073709551616 by decide), (show 0 < 256 by decide)⟩
theorem kn4_ok (g : Nat) : (kn4 g).Ok := ⟨(show ckOk 12 from rfl), (show 0 < 4294967296 by decide), (show 4294967297 < 18446744073709551616 by decide), (show 0 < 18446744073709551616 by decide), (show 0 < 18446744073709551616 by decide), (show 0 < 256 by decide)⟩
section
variable {w0 W : World} {O : Tg} {s : Nat}
theorem kn_create (g : Nat) (h : KnS w0 s [] W O) (hs : IsB W (some ⟨g, 0, none⟩) 16 16 (List.replicate 16 97)) :
    Calls Tryz.prog 10 #[.pointer (some ⟨s, 0, none⟩), .agg (kn1 g).cs] W (DoR s 100 W O (errA 0) [kt1]) := by
  obtain ⟨m, bs, ib⟩ := h.ib
  have hb0 : bs = [] := by have := List.perm_nil.1 ib.prm; simpa using this
  refine do_of 39 ib (kn1_ok g).kind rfl (enters_of Tryz.func39 (by kernel_rfl) rfl) _ _ fun V hb hi => ?_
  exact id_create_some hi (kn1_ok g) (by rw [hb0]; rfl) (hs.ab hb) (by decide) rfl rfl rfl rfl _ _ rfl rfl
theorem kn_attach (g : Nat) (h : KnS w0 s [kt1] W O) (hs : IsB W (some ⟨g, 0, none⟩) 16 16 (List.replicate 16 97)) :
    Calls Tryz.prog 10 #[.pointer (some ⟨s, 0, none⟩), .agg (kn2 g).cs] W (DoR s 100 W O (hdA 4294967297) [kt2]) := by
  obtain ⟨m, bs, ib⟩ := h.ib
  obtain ⟨b, hb0⟩ := idM_one ib
  subst hb0
  refine do_of 46 ib (kn2_ok g).kind rfl (enters_of Tryz.func46 (by kernel_rfl) rfl) _ _ fun V hb hi => ?_
  have e1 : (kn2 g).ten * 4294967296 + ((b, kt1).2.A.length + 1) = 4294967297 := by show 1 * 4294967296 + (0 + 1) = 4294967297; decide
  have e2 : updT (kn2 g).ten (attT (b, kt1).2) [kt1] = [kt2] := by show updT 1 (attT kt1) [kt1] = [kt2]; rfl
  rw [← e1, ← e2]
  exact attach_yes (b, kt1) hi (kn2_ok g) rfl (hs.ab hb) rfl (show ([] : HL).length < 1000000 by decide) rfl
theorem kn_batch (g g1 g2 : Nat) (h : KnS w0 s [kt2] W O) (ho : OpsB W (some ⟨g, 0, none⟩) 1 1 [opK g1 g2]) :
    Calls Tryz.prog 10 #[.pointer (some ⟨s, 0, none⟩), .agg (kn3 g g1 g2).cs] W (DoR s 100 W O (errA 0) [kt3]) := by
  obtain ⟨m, bs, ib⟩ := h.ib
  obtain ⟨b, hb0⟩ := idM_one ib
  subst hb0
  refine do_of 49 ib (kn3_ok g g1 g2).kind rfl (enters_of Tryz.func49 (by kernel_rfl) rfl) _ _ fun V hb hi => ?_
  have d1 : (kn3 g g1 g2).hd / 4294967296 = 1 := by show 4294967297 / 4294967296 = 1; decide
  have d2 : (kn3 g g1 g2).hd % 4294967296 = 1 := by show 4294967297 % 4294967296 = 1; decide
  have e1 : batA (b, kt2).2 (kn3 g g1 g2).ops = errA 0 := rfl
  have e2 : updT ((kn3 g g1 g2).hd / 4294967296) (batQ (b, kt2).2 (kn3 g g1 g2).ops) [kt2] = [kt3] := by rw [d1]; rfl
  rw [← e1, ← e2]
  exact id_batch_ok (b, kt2) hi (kn3_ok g g1 g2) (by rw [d1]; rfl) (by rw [d2]; exact (show checkH [⟨15, 0, true⟩] 1 2 = 0 by decide)) (show 1 ≤ 100 by decide) (ho.ab hb) rfl ⟨(show 0 ≤ 90000 by decide), fun p hp => (by cases hp), (show 0 ≤ 100000 by decide)⟩
theorem kn_get (g : Nat) (h : KnS w0 s [kt3] W O) (hs : IsB W (some ⟨g, 0, none⟩) 1 1 [107]) :
    Calls Tryz.prog 10 #[.pointer (some ⟨s, 0, none⟩), .agg (kn4 g).cs] W (DoR s 100 W O (valA [50]) [kt3]) := by
  obtain ⟨m, bs, ib⟩ := h.ib
  obtain ⟨b, hb0⟩ := idM_one ib
  subst hb0
  refine do_of 50 ib (kn4_ok g).kind rfl (enters_of Tryz.func50 (by kernel_rfl) rfl) _ _ fun V hb hi => ?_
  have d1 : (kn4 g).hd / 4294967296 = 1 := by show 4294967297 / 4294967296 = 1; decide
  have d2 : (kn4 g).hd % 4294967296 = 1 := by show 4294967297 % 4294967296 = 1; decide
  exact id_get_hit (b, kt3) hi (kn4_ok g) (by rw [d1]; rfl) (by rw [d2]; exact (show checkH [⟨15, 0, true⟩] 1 1 = 0 by decide)) (show 1 ≤ 1 ∧ 1 ≤ 32 by decide) (hs.ab hb) [(k8 [107], [50])] rfl [50] rfl
end
end Go.Proofs.YtnnjmelibmiimaaGreat
namespace Go.Proofs.YtnnjmelibmiimaaGreat
open Go.RowKit
set_option linter.unusedVariables false
set_option linter.unusedSimpArgs false

/-- one op, of one key and one value of a byte each -/
theorem opsB_one (w : World) : OpsB (((w.alloc (.cells #[.int .u8 107] 5 (1, 2))).alloc (.cells #[.int .u8 50] 5 (1, 2))).alloc (.cells #[.slice (some ⟨w.heap.size, 0, none⟩) 1 1, .slice (some ⟨w.heap.size + 1, 0, none⟩) 1 1, .bool false] 68)) (some ⟨w.heap.size + 1 + 1, 0, none⟩) 1 1 [opK w.heap.size (w.heap.size + 1)] := by
  have i1 : IsB (w.alloc (.cells #[.int .u8 107] 5 (1, 2))) (some ⟨w.heap.size, 0, none⟩) 1 1 [107] := isB_marked (t := 5) (l := [107]) (heap_alloc_new w _) (fun x hx => by simp at hx; omega) (by simp) (by decide)
  have i2 : IsB ((w.alloc (.cells #[.int .u8 107] 5 (1, 2))).alloc (.cells #[.int .u8 50] 5 (1, 2))) (some ⟨(w.alloc (.cells #[.int .u8 107] 5 (1, 2))).heap.size, 0, none⟩) 1 1 [50] := isB_marked (t := 5) (l := [50]) (heap_alloc_new (w.alloc (.cells #[.int .u8 107] 5 (1, 2))) _) (fun x hx => by simp at hx; omega) (by simp) (by decide)
  have e2 : (w.alloc (.cells #[.int .u8 107] 5 (1, 2))).heap.size = w.heap.size + 1 := by simp
  rw [e2] at i2
  have cb : CbB (((w.alloc (.cells #[.int .u8 107] 5 (1, 2))).alloc (.cells #[.int .u8 50] 5 (1, 2))).alloc (.cells #[.slice (some ⟨w.heap.size, 0, none⟩) 1 1, .slice (some ⟨w.heap.size + 1, 0, none⟩) 1 1, .bool false] 68)) (w.heap.size + 1 + 1) 68 #[.slice (some ⟨w.heap.size, 0, none⟩) 1 1, .slice (some ⟨w.heap.size + 1, 0, none⟩) 1 1, .bool false] := CbB.newI (by simp)
  refine ⟨rfl, Nat.le_refl _, by decide, fun i o ho => ?_⟩
  rcases i with _ | i
  · simp only [List.getElem?_cons_zero, Option.some.injEq] at ho
    subst ho
    exact ⟨⟨w.heap.size + 1 + 1, 0, none⟩, rfl, cb.lt, cb.cell (k := 0) rfl, cb.cell (k := 1) rfl, cb.cell (k := 2) rfl, (i1.ab ((Below.refl _ _).alloc (Nat.le_refl _) _)).ab ((Below.refl _ _).alloc (Nat.le_refl _) _), i2.ab ((Below.refl _ _).alloc (Nat.le_refl _) _)⟩
  · simp at ho
set_option maxRecDepth 100000 in
set_option maxHeartbeats 4000000 in
theorem known26_any (w : World) : Calls Tryz.prog 8 #[] w fun e w' => e = .returned (.bool true) ∧ Below w.heap.size w w' := by
  have HN := Lib.hid (idNew_any 100 (by decide) (by decide) w (fun _ => none))
  have HS := Lib.hid fun W => secret_any W
  have hkc := fun (w : World) (C : Array Value) (n c : Nat) => Lib.run_convert_bytes_const (P := Tryz.prog) w 31 5 C n c Tryz.underlying31 Tryz.underlying5
  have hf0 := fun e h sn n A1 n1 c1 A2 n2 c2 A3 n3 c3 w => run_fieldA e h sn n A1 n1 c1 A2 n2 c2 A3 n3 c3 0 _ rfl w
  have hf1 := fun e h sn n A1 n1 c1 A2 n2 c2 A3 n3 c3 w => run_fieldA e h sn n A1 n1 c1 A2 n2 c2 A3 n3 c3 1 _ rfl w
  go_enter Tryz.func8, Tryz.ntmps8
  go_wp2_with fail
  refine HN.out.mono ?_
  rintro e w1 ⟨rfl, ib, sz, hb⟩
  have K1 : Hid (KnS w (w.heap.size + 1) [] w1 (newTg (fun _ => none) w.heap.size (w.heap.size + 1))) := Lib.hid ⟨ib, hb, fun k hk => by unfold newTg; rw [if_neg (by omega)]⟩
  clear ib sz hb HN
  go_wp2_with fail
  refine (HS.out _).mono ?_
  rintro e w2 ⟨rfl, hs, hb⟩
  have K2 := Lib.hid (K1.out.ab hb)
  have HC := Lib.hid (kn_create w1.heap.size K2.out hs)
  clear hs hb
  unfold kn1 CallP.cs nilA at HC
  dsimp only at HC
  go_wp2_with fail
  refine HC.out.mono ?_
  intro e w3 hd
  obtain ⟨cs3, O3, rfl, an, k3, _⟩ := K2.out.step hd
  obtain ⟨A3, n3, c3, B3, b3, d3, L3, q3, z3, rfl, ho3⟩ := an.err
  have K3 := Lib.hid k3
  clear hd an ho3 k3 HC K2 K1
  dsimp only [errA]
  go_wp2_with fail
  refine (HS.out _).mono ?_
  rintro e w4 ⟨rfl, hs, hb⟩
  have K4 := Lib.hid (K3.out.ab hb)
  have HC := Lib.hid (kn_attach w3.heap.size K4.out hs)
  clear hs hb
  unfold kn2 CallP.cs nilA at HC
  dsimp only at HC
  go_wp2_with fail
  refine HC.out.mono ?_
  intro e w5 hd
  obtain ⟨cs5, O5, rfl, an, k5, _⟩ := K4.out.step hd
  obtain ⟨A5, n5, c5, B5, b5, d5, L5, q5, z5, rfl, ho5⟩ := an.err
  have K5 := Lib.hid k5
  clear hd an ho5 k5 HC K4 K3
  have hdv : ((hdA 4294967297).hd : Int) = 4294967297 := rfl
  rw [hdv]
  clear hdv
  have hk2 : ∀ W : World, (convert 31 31 (.slice (some ⟨W.heap.size + 1, 0, none⟩) 1 1)).run Tryz.prog ((W.alloc (.cells #[.int .u8 107] 5 (1, 2))).alloc (.cells #[.int .u8 50] 5)) = .ok (.slice (some ⟨W.heap.size + 1, 0, none⟩) 1 1) ((W.alloc (.cells #[.int .u8 107] 5 (1, 2))).alloc (.cells #[.int .u8 50] 5 (1, 2))) := fun W => by
    have := hkc (W.alloc (.cells #[.int .u8 107] 5 (1, 2))) #[.int .u8 50] 1 1
    simpa using this
  have b6 : Below w5.heap.size w5 (((w5.alloc (.cells #[.int .u8 107] 5 (1, 2))).alloc (.cells #[.int .u8 50] 5 (1, 2))).alloc (.cells #[.slice (some ⟨w5.heap.size, 0, none⟩) 1 1, .slice (some ⟨w5.heap.size + 1, 0, none⟩) 1 1, .bool false] 68)) := (((Below.refl _ _).alloc (Nat.le_refl _) _).alloc (by simp) _).alloc (by simp; omega) _
  have K6 := Lib.hid (K5.out.ab b6)
  have HC := Lib.hid (kn_batch (w5.heap.size + 1 + 1) w5.heap.size (w5.heap.size + 1) K6.out (opsB_one w5))
  clear b6
  unfold kn3 CallP.cs nilA at HC
  dsimp only at HC
  go_wp2_with fail
  refine HC.out.mono ?_
  intro e w7 hd
  obtain ⟨cs7, O7, rfl, an, k7, _⟩ := K6.out.step hd
  obtain ⟨A7, n7, c7, B7, b7, d7, L7, q7, z7, rfl, ho7⟩ := an.err
  have K7 := Lib.hid k7
  clear hd an ho7 k7 HC K6 K5
  dsimp only [errA]
  go_upto_region 6 with (fail)
  have ba : Below w7.heap.size w7 (w7.alloc (.cells #[.int .i64 0, .int .u64 0, .int .u64 0, .slice A7 n7 c7, .slice B7 b7 d7, .int .i64 0, .slice L7 q7 z7] 40)) := (Below.refl _ _).alloc (Nat.le_refl _) _
  have k8 := K7.out.ab ba
  have cb8 := CbB.new w7 40 #[.int .i64 0, .int .u64 0, .int .u64 0, .slice A7 n7 c7, .slice B7 b7 d7, .int .i64 0, .slice L7 q7 z7]
  have t8 : cutTg O7 w7.heap.size w7.heap.size = some (0, 0) := cutTg_at (Nat.le_refl _)
  obtain ⟨w8, hw8⟩ : ∃ w8, w7.alloc (.cells #[.int .i64 0, .int .u64 0, .int .u64 0, .slice A7 n7 c7, .slice B7 b7 d7, .int .i64 0, .slice L7 q7 z7] 40) = w8 := ⟨_, rfl⟩
  rw [hw8] at k8 cb8 ⊢
  have b9 : Below w8.heap.size w8 (w8.alloc (.cells #[.int .u8 107] 5 (1, 2))) := (Below.refl _ _).alloc (Nat.le_refl _) _
  have k9 := k8.ab b9
  have t9 : cutTg (cutTg O7 w7.heap.size) w8.heap.size w7.heap.size = some (0, 0) := by rw [show cutTg (cutTg O7 w7.heap.size) w8.heap.size w7.heap.size = cutTg O7 w7.heap.size w7.heap.size from by unfold cutTg; rw [if_pos cb8.lt]]; exact t8
  have i9 : IsB (w8.alloc (.cells #[.int .u8 107] 5 (1, 2))) (some ⟨w8.heap.size, 0, none⟩) 1 1 [107] := isB_marked (t := 5) (l := [107]) (heap_alloc_new w8 _) (fun x hx => by simp at hx; omega) (by simp) (by decide)
  have cb9 := cb8.ab b9
  have HC := Lib.hid (kn_get w8.heap.size k9 i9)
  have K9 := Lib.hid k9
  have C9 := Lib.hid cb9
  have T9 := Lib.hid t9
  clear ba k8 cb8 t8 b9 k9 t9 i9 cb9 hw8 K7
  unfold kn4 CallP.cs nilA at HC
  dsimp only at HC
  go_wp2_with fail
  refine HC.out.mono ?_
  intro e w10 hd
  obtain ⟨cs10, O10, rfl, an, k10, st⟩ := K9.out.step hd
  obtain ⟨A1, n1, c1, B1, b1, d1, L1, q1, z1, rfl, ho10⟩ := an.err
  have cb10 : CbB w10 w7.heap.size 40 _ := (st.ot C9.out.lt T9.out (fun e => by have h2 : (0 : Nat) = w.heap.size + 1 := e; omega)).1.trans C9.out
  obtain ⟨A2, c2, he2, _, _⟩ := ho10.shape
  simp only [valA, Value.slice.injEq] at he2
  obtain ⟨rfl, rfl, rfl⟩ := he2
  have i10 := ho10.isB rfl
  have K10 := Lib.hid k10
  have C10 := Lib.hid cb10
  have I10 := Lib.hid i10
  clear hd an ho10 k10 st cb10 i10 HC K9 C9 T9
  dsimp only [valA]
  go_upto_region 7 with (fail)
  have ba : Below w10.heap.size w10 (w10.alloc (.cells #[.int .i64 0, .int .u64 0, .int .u64 0, .slice A1 1 c1, .slice B1 b1 d1, .int .i64 0, .slice L1 q1 z1] 40)) := (Below.refl _ _).alloc (Nat.le_refl _) _
  have k11 := (K10.out.ab ba).bl
  have x5 := CbB.new w10 40 #[.int .i64 0, .int .u64 0, .int .u64 0, .slice A1 1 c1, .slice B1 b1 d1, .int .i64 0, .slice L1 q1 z1]
  have x4 := C10.out.ab ba
  have i11 := I10.out.ab ba
  obtain ⟨w11, hw11⟩ : ∃ w11, w10.alloc (.cells #[.int .i64 0, .int .u64 0, .int .u64 0, .slice A1 1 c1, .slice B1 b1 d1, .int .i64 0, .slice L1 q1 z1] 40) = w11 := ⟨_, rfl⟩
  rw [hw11] at k11 x5 x4 i11 ⊢
  have y4 : w11.cell? ⟨w7.heap.size, 0, none⟩ = some (.int .i64 0) := x4.cell (k := 0) rfl
  have y5 : w11.cell? ⟨w10.heap.size, 0, none⟩ = some (.int .i64 0) := x5.cell (k := 0) rfl
  have y6 : w11.cell? ⟨w10.heap.size, 3, none⟩ = some (.slice A1 1 c1) := x5.cell (k := 3) rfl
  have hst : (convert 31 9 (.slice A1 1 c1)).run Tryz.prog w11 = .ok (.string ⟨#[50]⟩) w11 := run_str i11 31 5 9 Tryz.underlying31 Tryz.underlying5 Tryz.underlying9
  have KB := Lib.hid k11
  clear ba k11 x5 x4 i11 hw11 K10 C10 I10
  go_wp2_with fail
  go_ret
  exact ⟨rfl, KB.out⟩
end Go.Proofs.YtnnjmelibmiimaaGreat
namespace Go.Proofs.YtnnjmelibmiimaaGreat
open Go.RowKit
set_option linter.unusedVariables false
set_option linter.unusedSimpArgs false

/-- a store that the law has made -/
structure KnG (bk : Nat) (w0 : World) (s : Nat) (T : List TnP) (W : World) (O : Tg) : Prop where
  ib : IdB W O s bk T
  bl : Below w0.heap.size w0 W
  no : ∀ k, k < w0.heap.size → O k = none
section
variable {bk : Nat} {w0 W W2 : World} {O O2 : Tg} {s : Nat} {T T2 : List TnP}
theorem KnG.pos (h : KnG bk w0 s T W O) : 0 < s := by obtain ⟨m, bs, h⟩ := h.ib; exact h.pos
theorem KnG.ab (h : KnG bk w0 s T W O) (hb : Below W.heap.size W W2) : KnG bk w0 s T W2 (cutTg O W.heap.size) := by
  have st : Stp (fun _ => False) W O W2 (cutTg O W.heap.size) := Stp.cut hb _
  refine ⟨h.ib.stp st fun _ h => h, below_tr h.bl hb h.bl.size, fun k hk => ?_⟩
  rw [st.tg k (Nat.lt_of_lt_of_le hk h.bl.size)]
  exact h.no k hk
/-- a call -/
theorem KnG.call (h : KnG bk w0 s T W O) {c : CallP} (hc : c.B W) (hl : ∀ t ∈ T, LimK 800 t) (hn : T.length ≤ 100000) {a : AnsP} (he : stepP bk T c = (a, T2)) :
    Calls Tryz.prog 10 #[.pointer (some ⟨s, 0, none⟩), .agg c.cs] W fun e W2 => ∃ cs O2, e = .returned (.agg cs) ∧ AnsB W2 W.heap.size O2 cs a ∧ KnG bk w0 s T2 W2 O2 ∧ Stp (fun τ => τ.1 = s) W O W2 O2 := by
  obtain ⟨m, bs, ib⟩ := h.ib
  refine (do_any ib hc hl hn).mono ?_
  rintro e W2 ⟨cs, O2, e1, an, ib2, st⟩
  rw [he] at an ib2
  exact ⟨cs, O2, e1, an, ⟨ib2, st.below h.bl h.bl.size h.no, fun k hk => (st.tg k (Nat.lt_of_lt_of_le hk h.bl.size)).trans (h.no k hk)⟩, st⟩
theorem row_ot {P : Nat × Nat → Prop} {w w' : World} {O O' : Tg} {C n s : Nat} {e : TypeId} {v : Value} {xs : List Value} (h : w.ownsRow C e s v n xs) (ho : ∀ g, v.ownBlock = some g → O g = some (0, 0)) (k : Stp P w O w' O') (hn : ¬ P (0, 0)) :
    w'.ownsRow C e s v n xs ∧ ∀ g, v.ownBlock = some g → O' g = some (0, 0) := by
  refine ⟨row_fr h k.fr fun g hg => ?_, fun g hg => ?_⟩
  · rintro ⟨τ, e1, e2⟩
    rw [ho g hg] at e1
    injection e1 with e1
    subst e1
    exact hn e2
  · have hl : g < w.heap.size := by
      rcases h.2 with ⟨rfl, _⟩ | ⟨g', cap, cur, rfl, _, hb, _⟩
      · cases hg
      · simp only [Value.ownBlock, Option.some.injEq] at hg
        subst hg
        exact lt_of_block hb
    exact (k.tg g hl).trans (ho g hg)
/-- an answer stays where a store is called again -/
theorem AnsB.stp {P : Nat × Nat → Prop} {w w' : World} {O O' : Tg} {C : Nat} {cs : Array Value} {a : AnsP} (h : AnsB w C O cs a) (k : Stp P w O w' O') (hn : ¬ P (0, 0)) : AnsB w' C O' cs a := by
  obtain ⟨⟨v, p, l, rfl, h1, h2, ⟨vs, p1, p2, p3, p4⟩, h4, h5⟩⟩ := h
  obtain ⟨a1, a2⟩ := row_ot h1.own h2 k hn
  obtain ⟨b1, b2⟩ := row_ot p1 p2 k hn
  obtain ⟨c1, c2⟩ := row_ot h4 h5 k hn
  refine ⟨⟨v, p, l, rfl, ⟨a1, h1.byt⟩, a2, ⟨vs, b1, b2, p3, fun i x y hx hy => ?_⟩, c1, c2⟩⟩
  obtain ⟨⟨kk, q1, q2⟩, q3, q4, q5⟩ := p4 i x y hx hy
  obtain ⟨d1, d2⟩ := row_ot q3.own q5 k hn
  obtain ⟨g', n, cap, cs', fr, e, r1, r2, r3⟩ := q1
  have hg : O g' = some (0, 0) := q4 g' (by rw [e]; rfl)
  have hnp : ¬ ∃ t, O g' = some t ∧ P t := fun ⟨t, e1, e2⟩ => by rw [hg] at e1; injection e1 with e1; subst e1; exact hn e2
  refine ⟨⟨kk, ⟨g', n, cap, cs', fr, e, r1, (k.fr.block g' (lt_of_block r2) hnp).trans r2, isB_frZ r3 k.fr fun h0 z hz => by injection hz with hz; rw [← hz]; exact hnp⟩, q2⟩, ⟨d1, q3.byt⟩, fun g hg2 => ?_, d2⟩
  rw [e] at hg2
  simp only [Value.ownBlock, Option.some.injEq] at hg2
  subst hg2
  exact (k.tg _ (lt_of_block r2)).trans hg
theorem box_stp {P : Nat × Nat → Prop} {w w' : World} {O O' : Tg} {g : Nat} {t : TypeId} {cs : Array Value} (h : CbB w g t cs) (hO : O g = some (0, 0)) (k : Stp P w O w' O') (hn : ¬ P (0, 0)) : CbB w' g t cs ∧ O' g = some (0, 0) := by
  have := k.ot h.lt hO hn
  exact ⟨this.1.trans h, this.2⟩
end
/-! the plain law -/
def stT (S : Bk2) (sn : List (Bk2 × Bool)) : TnP := ⟨7, List.replicate 16 97, 1000, S, [⟨15, 0, true⟩], sn, false⟩
def stH : Nat := 30064771073
def stC1 (g : Nat) : CallP := ⟨1, 7, ⟨some ⟨g, 0, none⟩, 16, 16, List.replicate 16 97⟩, 1000, 0, 0, 0, 0, 0, none, 0, 0, [], nilA, nilA, nilA, false⟩
def stC2 (g : Nat) : CallP := ⟨8, 7, ⟨some ⟨g, 0, none⟩, 16, 16, List.replicate 16 97⟩, 0, 0, 0, 0, 0, 0, none, 0, 0, [], nilA, nilA, nilA, false⟩
def stCB (b : BaP) : CallP := ⟨11, 0, nilA, 0, 0, stH, 0, 0, 0, b.A, b.n, b.c, b.ops, nilA, nilA, nilA, false⟩
def stCK (kind n : Int) (sn : Nat) : CallP := ⟨kind, 0, nilA, 0, n, stH, 0, sn, 0, none, 0, 0, [], nilA, nilA, nilA, false⟩
theorem nilB (w : World) : IsB w nilA.A nilA.n nilA.c nilA.l := ⟨isRow_nil w .u8, fun x hx => by cases hx⟩
theorem opsNil (w : World) : OpsB w none 0 0 [] := ⟨rfl, Nat.le_refl _, Nat.zero_le _, fun i o h => by simp at h⟩
theorem stC1_b {g : Nat} {w : World} (h : IsB w (some ⟨g, 0, none⟩) 16 16 (List.replicate 16 97)) : (stC1 g).B w := ⟨⟨(show ckOk 1 from rfl), (show 7 < 4294967296 by decide), (show 0 < 18446744073709551616 by decide), (show 0 < 18446744073709551616 by decide), (show 0 < 18446744073709551616 by decide), (show 0 < 256 by decide)⟩, h, nilB w, nilB w, nilB w, opsNil w⟩
theorem stC2_b {g : Nat} {w : World} (h : IsB w (some ⟨g, 0, none⟩) 16 16 (List.replicate 16 97)) : (stC2 g).B w := ⟨⟨(show ckOk 8 from rfl), (show 7 < 4294967296 by decide), (show 0 < 18446744073709551616 by decide), (show 0 < 18446744073709551616 by decide), (show 0 < 18446744073709551616 by decide), (show 0 < 256 by decide)⟩, h, nilB w, nilB w, nilB w, opsNil w⟩
theorem stCB_b {b : BaP} {w : World} (h : OpsB w b.A b.n b.c b.ops) : (stCB b).B w := ⟨⟨(show ckOk 11 from rfl), (show 0 < 4294967296 by decide), (show 30064771073 < 18446744073709551616 by decide), (show 0 < 18446744073709551616 by decide), (show 0 < 18446744073709551616 by decide), (show 0 < 256 by decide)⟩, nilB w, nilB w, nilB w, nilB w, h⟩
theorem stCK_b {kind n : Int} {sn : Nat} {w : World} (hk : ckOk kind) (hs : sn < 18446744073709551616) : (stCK kind n sn).B w := ⟨⟨hk, (show 0 < 4294967296 by decide), (show 30064771073 < 18446744073709551616 by decide), (show 0 < 18446744073709551616 by decide), hs, (show 0 < 256 by decide)⟩, nilB w, nilB w, nilB w, nilB w, opsNil w⟩
theorem st_hd : stH / 4294967296 = 7 := by decide
theorem st_lo : stH % 4294967296 = 1 := by decide
theorem st_ck (nd : Nat) (h : nd = 1 ∨ nd = 2 ∨ nd = 4) : checkH [⟨15, 0, true⟩] 1 nd = 0 := by rcases h with rfl | rfl | rfl <;> decide
/-- a call of the tenant's one handle -/
theorem st_H (S : Bk2) (sn : List (Bk2 × Bool)) (c : CallP) (hc : c.hd = stH) (nd : Nat) (hn : nd = 1 ∨ nd = 2 ∨ nd = 4) (f : TnP → CallP → AnsP × TnP) (S' : Bk2) (sn' : List (Bk2 × Bool)) (hf : (f (stT S sn) c).2 = stT S' sn') :
    tenH1 [stT S sn] c nd f = ((f (stT S sn) c).1, [stT S' sn']) := by
  unfold tenH1
  rw [hc, st_hd, st_lo]
  have h1 : fndT [stT S sn] 7 = some (stT S sn) := rfl
  rw [h1]
  simp only
  rw [show (stT S sn).A = [⟨15, 0, true⟩] from rfl, st_ck nd hn, hf]
  rfl
theorem st_step (k : Int) (c : CallP) (hk : c.kind = k) (T : List TnP) : stepP 4096 T c = (if k = 1 then creP 4096 T c else if k = 2 then remP T c else if k = 3 then tenC1 T c turP else if k = 4 then tenC1 T c stpP else if k = 5 then tenC1 T c finP
  else if k = 6 then (errA 0, T) else if k = 7 then (lstA (U32.srt (T.map (·.n))), T) else if k = 8 then tenC1 T c attP else if k = 9 then tenH1 T c 0 givP else if k = 10 then tenH1 T c 0 revP
  else if k = 11 then tenH1 T c 2 batP else if k = 12 then tenH1 T c 1 getP else if k = 13 then tenH1 T c 1 scnP else if k = 14 then tenH1 T c 4 snpP else if k = 15 then tenH1 T c 4 relP
  else if k = 16 then tenH1 T c 1 useP else (errA 2, T)) := by unfold stepP; rw [hk]
set_option maxRecDepth 100000 in
theorem st_1 (g : Nat) : stepP 4096 [] (stC1 g) = (errA 0, [⟨7, List.replicate 16 97, 1000, [], [], [], false⟩]) := by rw [st_step 1 _ rfl]; rfl
set_option maxRecDepth 100000 in
theorem st_2 (g : Nat) : stepP 4096 [⟨7, List.replicate 16 97, 1000, [], [], [], false⟩] (stC2 g) = (hdA stH, [stT [] []]) := by
  rw [st_step 8 _ rfl]
  have e : 7 * 4294967296 + (0 + 1) = stH := by decide
  rw [← e]
  rfl
/-- a batch: what is told is not asked -/
theorem st_B (S : Bk2) (sn : List (Bk2 × Bool)) (b : BaP) (hb : b.ops.length = b.n) : ∃ a S', stepP 4096 [stT S sn] (stCB b) = (a, [stT S' sn]) ∧ S'.length ≤ S.length + 100 := by
  obtain ⟨S', h1, h2⟩ : ∃ S', (batP (stT S sn) (stCB b)).2 = stT S' sn ∧ S'.length ≤ S.length + 100 := by
    unfold batP
    by_cases hn : 100 < (stCB b).oN
    · rw [decide_eq_true hn]; exact ⟨S, rfl, by omega⟩
    · rw [decide_eq_false hn]
      cases ha : (stCB b).ops.all opOk with
      | false => exact ⟨S, rfl, by omega⟩
      | true =>
        simp only
        unfold batQ
        cases overB ((stT S sn).q : Int) (chg (doAll (stT S sn).now (stCB b).ops)) (liveC (stT S sn).sn) with
        | true => exact ⟨S, rfl, by omega⟩
        | false =>
          refine ⟨doAll S b.ops, rfl, ?_⟩
          have := doAll_len b.ops S
          have h9 : ¬ 100 < b.n := hn
          omega
  refine ⟨(batP (stT S sn) (stCB b)).1, S', ?_, h2⟩
  rw [st_step 11 _ rfl]
  exact st_H S sn (stCB b) rfl 2 (by decide) batP S' sn h1
/-- the keys that scan of all tells -/
def stK (S : Bk2) : List Ky := scanK (stCK 13 100 0) S
theorem st_scan0 (S : Bk2) (sn : List (Bk2 × Bool)) : stepP 4096 [stT S sn] (stCK 13 100 0) = (prsA (prsK S (stK S)), [stT S sn]) := by
  rw [st_step 13 _ rfl]
  exact st_H S sn (stCK 13 100 0) rfl 1 (by decide) scnP S sn rfl
theorem st_scan1 (S X : Bk2) : stepP 4096 [stT S [(X, false)]] (stCK 13 100 1) = (prsA (prsK X (stK X)), [stT S [(X, false)]]) := by
  rw [st_step 13 _ rfl]
  exact st_H S [(X, false)] (stCK 13 100 1) rfl 1 (by decide) scnP S [(X, false)] rfl
theorem st_scan2 (S X : Bk2) : stepP 4096 [stT S [(X, true)]] (stCK 13 100 1) = (errA 262, [stT S [(X, true)]]) := by
  rw [st_step 13 _ rfl]
  exact st_H S [(X, true)] (stCK 13 100 1) rfl 1 (by decide) scnP S [(X, true)] rfl
theorem st_snap (S : Bk2) : stepP 4096 [stT S []] (stCK 14 0 0) = (errA 261, [stT S []]) ∨ stepP 4096 [stT S []] (stCK 14 0 0) = (snA 1, [stT S [(S, false)]]) := by
  have e : ∀ b, overB ((stT S []).q : Int) (chg (stT S []).now) (liveC (stT S []).sn ++ [chg (stT S []).now]) = b → stepP 4096 [stT S []] (stCK 14 0 0) = (bif b then errA 261 else snA 1, [stT S (bif b then [] else [(S, false)])]) := fun b hb => by
    rw [st_step 14 _ rfl]
    have h1 : snapA (stT S []) = bif b then errA 261 else snA 1 := by unfold snapA; rw [hb]; cases b <;> rfl
    have h2 : (snpP (stT S []) (stCK 14 0 0)).2 = stT S (bif b then [] else [(S, false)]) := by
      show snapQ (stT S []) = _
      unfold snapQ
      rw [hb]
      cases b <;> rfl
    have := st_H S [] (stCK 14 0 0) rfl 4 (by decide) snpP S _ h2
    rw [show (snpP (stT S []) (stCK 14 0 0)).1 = snapA (stT S []) from rfl, h1] at this
    exact this
  cases hb : overB ((stT S []).q : Int) (chg (stT S []).now) (liveC (stT S []).sn ++ [chg (stT S []).now]) with
  | true => exact .inl (e true hb)
  | false => exact .inr (e false hb)
theorem st_rel (S X : Bk2) : stepP 4096 [stT S [(X, false)]] (stCK 15 0 1) = (errA 0, [stT S [(X, true)]]) := by
  rw [st_step 15 _ rfl]
  exact st_H S [(X, false)] (stCK 15 0 1) rfl 4 (by decide) relP S [(X, true)] rfl
theorem st_use (S X : Bk2) (g : Bool) : stepP 4096 [stT S [(X, g)]] (stCK 16 0 0) = (cntA (chg S + (bif g then 0 else chg X + 1)), [stT S [(X, g)]]) := by
  rw [st_step 16 _ rfl]
  have h := st_H S [(X, g)] (stCK 16 0 0) rfl 1 (by decide) useP S [(X, g)] rfl
  refine h.trans ?_
  have : sumS (liveC (stT S [(X, g)]).sn) = bif g then 0 else chg X + 1 := by cases g <;> simp [stT, liveC, sumS]
  show (cntA (chg S + sumS (liveC (stT S [(X, g)]).sn)), _) = _
  rw [this]
theorem st_lim {S : Bk2} {sn : List (Bk2 × Bool)} (h1 : S.length ≤ 20000) (h2 : sn.length ≤ 1) (h3 : ∀ p ∈ sn, p.1.length ≤ 20000) : ∀ t ∈ [stT S sn], LimK 800 t := fun t ht => by
  simp only [List.mem_singleton] at ht
  subst ht
  exact ⟨by show S.length ≤ _; omega, by show sn.length ≤ _; omega, fun p hp => by have := h3 p hp; omega, by show 1 ≤ 800; decide⟩
end Go.Proofs.YtnnjmelibmiimaaGreat
