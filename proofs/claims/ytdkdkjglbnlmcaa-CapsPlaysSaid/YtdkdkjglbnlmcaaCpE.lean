/-
  CAPS: a parameter []Op opened; two lists of numbers held against each other; CapsPlays: walks.
-/
import Derived.Test.YtdkdkjglbnlmcaaCpD
import Derived.Test.YtdkdkjglbnlmcaaTrd
namespace Go.Proofs.Ytdkdkjglbnlmcaa
open Go.RowKit Go.ChangeShapes Go.WideShapes
set_option linter.unusedVariables false

/-- a call that is asked -/
structure OArg where
  k : Int
  h : Nat
  v : Nat
  r : Nat
def ocv (q : OArg) : Array Value := #[.int .i64 q.k, .int .u64 (q.h : Int), .int .u64 (q.v : Int), .int .u8 (q.r : Int)]
structure OpB (w : World) (A : Option Addr) (n c : Nat) (qs : List OArg) : Prop where
  len : qs.length = n
  cap : n ≤ c
  max : c ≤ maxLen
  cel : ∀ (i : Nat) (q : OArg), qs[i]? = some q → ∃ x, A = some x ∧ x.block < w.heap.size ∧ (∀ (j : Nat) (u : Value), (ocv q)[j]? = some u → w.cell? (x.add (i * 4 + j)) = some u) ∧ u64Ok q.h ∧ u64Ok q.v
section
variable {H : Type} {enc : TypeId × Value → H} {W : World}
theorem list4a {α : Type} {cs : List α} (h : cs.length = 4) : ∃ c0 c1 c2 c3, cs = [c0, c1, c2, c3] := by
  match cs, h with
  | [c0, c1, c2, c3], _ => exact ⟨c0, c1, c2, c3, rfl⟩
set_option maxRecDepth 100000 in
theorem op_trod {fuel : Nat} {cs : List Value} {x : DataW H × List MemPlace} (h : DataW.trod enc Try.prog W 0 (fun _ => true) true fuel 37 cs = some x) : ∃ q : OArg, cs = (ocv q).toList ∧ u64Ok q.h ∧ u64Ok q.v := by
  obtain ⟨y0, y1, y2, y3, n, hx, hl, h0, h1, h2, h3⟩ := trod_struct4X Try.underlying37 h
  have c4 : Try.prog.cellsOf 37 = 4 := by kernel_rfl
  have ci : Try.prog.cellsOf 3 = 1 := by kernel_rfl
  have cl : Try.prog.cellsOf 24 = 1 := by kernel_rfl
  have cr : Try.prog.cellsOf 29 = 1 := by kernel_rfl
  rw [c4] at hl
  obtain ⟨v0, v1, v2, v3, rfl⟩ := list4a hl
  simp only [ci, cl, cr] at h0 h1 h2 h3
  obtain ⟨n0, e0, w0⟩ := int_trodX Try.underlying3 h0
  obtain ⟨n1, e1, w1⟩ := int_trodX Try.underlying24 h1
  obtain ⟨n2, e2, w2⟩ := int_trodX Try.underlying24 h2
  obtain ⟨n3, e3, w3⟩ := int_trodX Try.underlying29 h3
  simp at e0 e1 e2 e3
  subst e0 e1 e2 e3
  obtain ⟨a1, rfl, b1⟩ := nat_intX (m := 18446744073709551616) w1 rfl (by decide)
  obtain ⟨a2, rfl, b2⟩ := nat_intX (m := 18446744073709551616) w2 rfl (by decide)
  obtain ⟨a3, rfl, b3⟩ := nat_intX (m := 256) w3 rfl (by decide)
  exact ⟨⟨n0, a1, a2, a3⟩, rfl, b1, b2⟩
set_option maxRecDepth 100000 in
theorem open_ops25 {base : Nat} {v : Value} {d : DataW H} {p : List MemPlace} (hk : Value.okWide Try.prog W .any base 35 v)
    (h : DataW.Trod enc Try.prog W 0 (fun _ => true) true 35 v d p) (hlt : ∀ x ∈ p, x.block < W.heap.size) : ∃ A n c qs, v = .slice A n c ∧ OpB W A n c qs := by
  obtain ⟨A, n, c, rfl⟩ := okWide_slice Try.underlying35 hk
  have c4 : Try.prog.cellsOf 37 = 4 := by kernel_rfl
  obtain ⟨fuel, hf⟩ := h
  rcases Go.Deep.open_slice Try.underlying35 hf with ⟨hcs, hx⟩ | ⟨a, len, cap, m, nn, D, Pl, hcs, hb, hl, hm, hmm, hx, hi⟩
  · simp [Value.cells] at hcs
    obtain ⟨rfl, rfl, rfl⟩ := hcs
    exact ⟨none, 0, 0, [], rfl, rfl, Nat.le_refl _, Nat.zero_le _, fun i q hq => by simp at hq⟩
  · simp [Value.cells] at hcs
    obtain ⟨rfl, rfl, rfl⟩ := hcs
    rw [c4] at hi hx
    have hmc : m = c := by simpa using hmm
    subst hmc
    have hp : p = MemPlace.row a (m * 4) ++ (List.range m).flatMap Pl := by simpa using congrArg (·.2) hx
    have hkey : ∀ i, i < n → ∃ q : OArg, (∀ (j : Nat) (u : Value), (ocv q)[j]? = some u → W.cell? (a.add (i * 4 + j)) = some u) ∧ u64Ok q.h ∧ u64Ok q.v := fun i hin => by
      obtain ⟨cs', hc, ht⟩ := hi i (by omega)
      obtain ⟨_, hcl, hat⟩ := World.cells?_some hc
      obtain ⟨q, rfl, h1, h2⟩ := op_trod ht
      refine ⟨q, fun j u hu => ?_, h1, h2⟩
      have hj : j < 4 := (Array.getElem?_eq_some_iff.1 hu).1
      have a0 := hat j (by simpa [ocv] using hj)
      rw [Go.Deep.add_add] at a0
      rw [a0]
      simpa using hu
    obtain ⟨ks, hkl, hks⟩ := list_ofX n hkey
    refine ⟨some a, n, m, ks, rfl, hkl, hl, hm, fun i q hq => ?_⟩
    have hin : i < n := by rw [← hkl]; exact (List.getElem?_eq_some_iff.1 hq).1
    refine ⟨a, rfl, ?_, hks i q hq⟩
    have h1 : MemPlace.cell a.block a.off ∈ MemPlace.row a (m * 4) := List.mem_map.2 ⟨0, List.mem_range.2 (by omega), by simp⟩
    exact hlt _ (by rw [hp]; exact List.mem_append_left _ h1)
end
theorem OpB.keep {w : World} {x : Addr} {n c : Nat} {qs : List OArg} (h : OpB w (some x) n c qs) {i : Nat} {q : OArg} (hq : qs[i]? = some q) : ∀ W, Below w.heap.size w W → W.cell? (x.add (i * 4)) = some (.int .i64 q.k) ∧ W.cell? ⟨(x.add (i * 4)).block, (x.add (i * 4)).off + 1, none⟩ = some (.int .u64 (q.h : Int)) ∧ W.cell? ⟨(x.add (i * 4)).block, (x.add (i * 4)).off + 2, none⟩ = some (.int .u64 (q.v : Int)) ∧ W.cell? ⟨(x.add (i * 4)).block, (x.add (i * 4)).off + 3, none⟩ = some (.int .u8 (q.r : Int)) := fun W hW => by
  obtain ⟨y, hy, hxl, hcell, _⟩ := h.cel i q hq
  injection hy with hy
  subst hy
  have hk : ∀ (j : Nat) (u : Value), (ocv q)[j]? = some u → W.cell? (x.add (i * 4 + j)) = some u := fun j u hu => by
    rw [← hcell j u hu]
    refine World.cell?_of_block ?_
    rw [add_block]
    exact hW.block _ hxl
  have hk2 : ∀ (j : Nat) (u : Value), (ocv q)[j + 1]? = some u → W.cell? ⟨(x.add (i * 4)).block, (x.add (i * 4)).off + (j + 1), none⟩ = some u := fun j u hu => by
    have h2 := hk (j + 1) u hu
    rw [← Go.Deep.add_add] at h2
    exact h2
  exact ⟨hk 0 _ rfl, hk2 0 _ rfl, hk2 1 _ rfl, hk2 2 _ rfl⟩
set_option maxRecDepth 100000 in
theorem same25_any {B B' : Nat} {a b : Value} {l : List Nat} {w : World} (ha : U64.NsB w B a l) (hb : U64.NsB w B' b l) (hl : l.length ≤ 100000) : Calls Try.prog 18 #[a, b] w fun e w' => e = .returned (.bool true) ∧ Below w.heap.size w w' := by
  obtain ⟨A1, c1, rfl, h1⟩ := ha.form
  obtain ⟨A2, c2, rfl, h2⟩ := hb.form
  have HL := Lib.hid hl
  have G1 := Lib.hid h1
  have G2 := Lib.hid h2
  have hlb : (l.length : Int) ≤ 100000 := by omega
  clear ha hb h1 h2 hl
  go_enter Try.func18, Try.ntmps18
  go_wp2_with fail
  go_loopw [5] (fun z wr => ∃ i : Nat, i ≤ l.length ∧ z = .int .i64 (i : Int) ∧ Below w.heap.size w wr ∧ wr.heap = w.heap) (fun z _ => l.length - (intOf z).toNat)
  case atStart => exact ⟨0, Nat.zero_le _, rfl, Below.refl _ _, rfl⟩
  case round =>
    obtain ⟨i, hi, rfl, hb, hh⟩ := hrel
    have B1 := Lib.hid hb
    have HH := Lib.hid hh
    by_cases hlt : i < l.length
    · obtain ⟨g1, rfl, x1⟩ := G1.out i hlt
      obtain ⟨g2, rfl, x2⟩ := G2.out i hlt
      have y1 : wr.cell? ⟨g1, i, none⟩ = some (.int .u64 ((l[i] : Nat) : Int)) := by unfold World.cell? at x1 ⊢; rw [hh]; exact x1
      have y2 : wr.cell? ⟨g2, i, none⟩ = some (.int .u64 ((l[i] : Nat) : Int)) := by unfold World.cell? at x2 ⊢; rw [hh]; exact x2
      have HLT := Lib.hid hlt
      have hlti : (i : Int) < (l.length : Int) := by omega
      clear x1 x2 hb hh hi
      generalize l[i] = z at *
      clear hlt
      go_wp2_with fail
      go_region
      go_wp2_with fail
      go_roundw
      case rel => exact ⟨i + 1, HLT.out, by go_num, ⟨B1.out.os, B1.out.tape, B1.out.output, B1.out.size, B1.out.block⟩, HH.out⟩
      case measure => simp [intOf]; have := HLT.out; omega
    · obtain rfl : i = l.length := by omega
      clear hb hh hi hlt
      go_wp2_with fail
      go_ret
      exact ⟨rfl, B1.out⟩
theorem CpA.lower {w : World} {B B' c : Nat} {mo : Option Nat} {A : HL} (h : CpA w B c mo A) (hB : B' ≤ B) : CpA w B' c mo A := by
  obtain ⟨⟨l, h1, h2, h3⟩, h4, h5⟩ := h
  exact ⟨⟨l, ⟨h1.box, Nat.le_trans hB h1.low, fun m hm => ⟨Nat.le_trans hB (h1.map m hm).1, (h1.map m hm).2⟩, h1.nil, h1.le⟩, h2, h3⟩, h4, h5⟩
theorem putH_len (A : HL) (r u : Nat) : (putH A r u).2.length ≤ A.length + 1 := by
  unfold putH
  split <;> simp
theorem stepH_len (A : HL) (z : Int) (h v r : Nat) : (stepH A z h v r).length ≤ A.length + 1 := by
  unfold stepH giveH revokeH
  split
  · exact putH_len _ _ _
  · split
    · cases atH A h with
      | none => exact Nat.le_succ _
      | some x =>
        simp only
        cases (noGive x.r || overR r x.r)
        · exact putH_len _ _ _
        · exact Nat.le_succ _
    · split
      · cases atH A h with
        | none => exact Nat.le_succ _
        | some x =>
          simp only
          cases atH A v with
          | none => exact Nat.le_succ _
          | some y =>
            simp only
            cases mayRv A x h v
            · exact Nat.le_succ _
            · show (killH A v).length ≤ _
              rw [killH_len]
              exact Nat.le_succ _
      · split
        · rw [clearH_len]; exact Nat.le_succ _
        · exact Nat.le_succ _
set_option maxRecDepth 100000 in
set_option maxHeartbeats 4000000 in
theorem cplays_any (A : Option Addr) (n c : Nat) (qs : List OArg) (w : World) (h : OpB w A n c qs) : Calls Try.prog 5 #[.slice A n c] w fun e w' => e = .returned (.bool true) ∧ Below w.heap.size w w' := by
  have KN := Lib.hid fun W => known25_any W
  by_cases hn : 300 < n
  · have hni : (300 : Int) < (n : Int) := by omega
    clear h hn
    go_enter Try.func5, Try.ntmps5
    go_wp2_with fail
    refine (KN.out _).mono ?_
    rintro e w1 ⟨rfl, hb⟩
    have B1 := Lib.hid hb
    clear hb
    go_wp2_with fail
    go_ret
    exact ⟨rfl, B1.out⟩
  · have hni : ¬ (300 : Int) < (n : Int) := by omega
    have HN : Hid (n ≤ 300) := Lib.hid (by omega)
    have K0 := Lib.hid h
    clear h hn
    go_enter Try.func5, Try.ntmps5
    go_wp2_with fail
    refine (capsNew_any w).mono ?_
    rintro e w1 ⟨rfl, hc, hb⟩
    have C1 : Hid (CpA w1 w.heap.size w.heap.size none []) := Lib.hid ⟨⟨[], hc, fun k => by simp [getC, atH, nthH], by simp⟩, RightA.nil, by simp [aliveH, aliveF]⟩
    have B1 := Lib.hid hb
    have ha : Below w1.heap.size w1 (w1.alloc (.cells #[.slice none 0 0] 47)) := (Below.refl _ _).alloc (Nat.le_refl _) _
    have C2 := Lib.hid (C1.out.ab ha)
    have B2 := Lib.hid (below_tr B1.out ha B1.out.size)
    have R2 := Lib.hid (RcB.new w1 w.heap.size hb.size)
    have GG := Lib.hid hb.size
    clear hc hb ha C1
    go_wp2_with fail
    generalize w1.heap.size = g at *
    go_loopw [3, 5] (fun z3 z wr => ∃ (i c0 : Nat) (mo : Option Nat) (v : Value) (L : HL), i ≤ n ∧ z = .int .i64 (i : Int) ∧ z3 = .pointer (some ⟨c0, 0, none⟩) ∧ w.heap.size ≤ c0 ∧ CpA wr w.heap.size c0 mo L ∧ RcB wr w.heap.size g v L ∧ L.length ≤ i ∧ Below w.heap.size w wr) (fun _ z _ => n - (intOf z).toNat)
    case atStart => exact ⟨0, w.heap.size, none, _, [], Nat.zero_le _, rfl, rfl, Nat.le_refl _, C2.out, R2.out, Nat.zero_le _, B2.out⟩
    case round =>
      obtain ⟨i, c0, mo, v, L, hi, rfl, rfl, hc0, hca, hra, hll, hb⟩ := hrel
      by_cases hlt : i < n
      · obtain ⟨q, hq⟩ : ∃ q, qs[i]? = some q := ⟨_, List.getElem?_eq_getElem (by rw [K0.out.len]; exact hlt)⟩
        obtain ⟨x, rfl, _, _, hqh, hqv⟩ := K0.out.cel i q hq
        have KC := Lib.hid (K0.out.keep hq)
        have QH := Lib.hid hqh
        have QV := Lib.hid hqv
        have HLT := Lib.hid hlt
        have hlti : (i : Int) < (n : Int) := by omega
        have HC := Lib.hid hca
        have HR := Lib.hid hra
        have HB := Lib.hid hb
        have H0 := Lib.hid hc0
        have HLL := Lib.hid hll
        have HL8 : Hid (L.length < 800) := Lib.hid (by have := HN.out; omega)
        have x0 := (KC.out wr hb).1
        by_cases h7 : q.k = 7
        · have e7 := h7
          rw [e7] at x0
          have K1 := Lib.hid (copyA_any hca)
          clear hi hc0 hca hra hll hb hqh hqv hq hlt h7
          go_wp2_with fail
          refine K1.out.mono ?_
          rintro e w3 ⟨c', mo', rfl, hc', hmo', hcp, hb⟩
          have B3 := Lib.hid (below_tr HB.out hb HB.out.size)
          have O3 := Lib.hid (HC.out.ab hb)
          have R3 := Lib.hid (HR.out.ab hb)
          have N3 := Lib.hid (hcp.lower HB.out.size)
          have CC : Hid (wr.heap.size ≤ c') := Lib.hid hc'
          have MM := Lib.hid hmo'
          have CL : Hid (c0 < wr.heap.size) := Lib.hid (by obtain ⟨z, hz⟩ := HC.out.box; exact hz.lt)
          have S3 := Lib.hid hb.size
          have K2 := Lib.hid (attachA_any O3.out (by have := HL8.out; omega))
          clear hc' hmo' hcp hb K1 x0
          go_wp2_with fail
          refine K2.out.mono ?_
          rintro e w4 ⟨rfl, mo4, hc4, hf4, hm4⟩
          have ML : ∀ m, mo = some m → m < wr.heap.size := fun m hm => by
            obtain ⟨_, es, ck, hz⟩ := HC.out.isMap hm
            exact (Array.getElem?_eq_some_iff.1 hz).1
          have N4 := Lib.hid (N3.out.fr hf4 (by rintro (e | e); have := CC.out; have := CL.out; omega; have := ML _ e; have := CC.out; omega) (fun m hm => by rintro (e | e); have := MM.out m hm; have := CL.out; omega; have := ML _ e; have := MM.out m hm; omega))
          have R4 := Lib.hid (R3.out.frC O3.out hf4)
          have B4 := Lib.hid (B3.out.trans (belowC H0.out O3.out hf4))
          have O4 := Lib.hid hc4
          have NM : Hid (∀ m, mo4 = some m → mo' ≠ some m ∧ m ≠ c') := Lib.hid fun m hm => by
            obtain ⟨zz, hzz⟩ := N3.out.box
            rcases hm4 with h5 | ⟨m1, h5, h6⟩
            · rw [h5] at hm
              have := ML m hm
              exact ⟨fun e => by have := MM.out m e; omega, by have := CC.out; omega⟩
            · rw [h5] at hm
              injection hm with hm
              subst hm
              refine ⟨fun e => ?_, by have := hzz.lt; omega⟩
              obtain ⟨_, es, ck, hz⟩ := N3.out.isMap e
              have := (Array.getElem?_eq_some_iff.1 hz).1
              omega
          have K3 := Lib.hid (clearA_any hc4)
          clear hc4 hf4 hm4 ML K2
          go_wp2_with fail
          refine K3.out.mono ?_
          rintro e w5 ⟨rfl, hc5, hf5⟩
          have N5 := Lib.hid (N4.out.fr hf5 (by rintro (e | e); have := CC.out; have := CL.out; omega; exact (NM.out _ e).2 rfl) (fun m hm => by rintro (e | e); have := MM.out m hm; have := CL.out; omega; exact (NM.out _ e).1 hm))
          have R5 := Lib.hid (R4.out.frC O4.out hf5)
          have B5 := Lib.hid (B4.out.trans (belowC H0.out O4.out hf5))
          have C5 : Hid (w.heap.size ≤ c') := Lib.hid (Nat.le_trans HB.out.size CC.out)
          clear hc5 hf5 K3
          have z0 := (KC.out w5 B5.out).1
          have z1 := (KC.out w5 B5.out).2.1
          have z2 := (KC.out w5 B5.out).2.2.1
          have z3 := (KC.out w5 B5.out).2.2.2
          rw [e7] at z0
          have DO := Lib.hid (do_any (z := 7) (h := q.h) (vv := q.v) (r := q.r) N5.out R5.out C5.out GG.out HL8.out QH.out QV.out)
          have SL := Lib.hid (stepH_len L 7 q.h q.v q.r)
          generalize stepH L 7 q.h q.v q.r = L2 at *
          go_wp2_with fail
          refine DO.out.mono ?_
          rintro e wa ⟨rfl, ⟨moa, hca⟩, ⟨va, hra⟩, hba⟩
          have CA := Lib.hid hca
          have RA := Lib.hid hra
          have BA := Lib.hid (B5.out.trans hba)
          have LA : Hid (L2.length < 900) := Lib.hid (by have := SL.out; have := HL8.out; omega)
          have KA := Lib.hid (aliveA_any hca (by have := LA.out; omega))
          clear hca hra hba DO z0 z1 z2 z3
          go_wp2_with fail
          refine KA.out.mono ?_
          rintro e wb ⟨la, rfl, hla, hb⟩
          have BB := Lib.hid (below_tr BA.out hb BA.out.size)
          have CB2 := Lib.hid (CA.out.ab hb)
          have RB := Lib.hid (RA.out.ab hb)
          have NA := Lib.hid hla
          have KB := Lib.hid (ralive_any (RA.out.ab hb) (by have := LA.out; omega))
          clear hla hb KA
          go_wp2_with fail
          refine KB.out.mono ?_
          rintro e wd ⟨lb, rfl, hlb, hb⟩
          have BD := Lib.hid (below_tr BB.out hb BB.out.size)
          have CD := Lib.hid (CB2.out.ab hb)
          have RD := Lib.hid (RB.out.ab hb)
          have KD := Lib.hid (same25_any (NA.out.ab hb) hlb (by have := aliveF_len L2 0; have := LA.out; unfold aliveH; omega))
          clear hlb hb KB
          go_wp2_with fail
          refine KD.out.mono ?_
          rintro e wz ⟨rfl, hb⟩
          have BZ := Lib.hid (below_tr BD.out hb BD.out.size)
          have CZ := Lib.hid (CD.out.ab hb)
          have RZ := Lib.hid (RD.out.ab hb)
          clear hb KD
          go_wp2_with fail
          go_roundw
          case rel => exact ⟨i + 1, c', moa, va, L2, HLT.out, by go_num, rfl, C5.out, CZ.out, RZ.out, by have := SL.out; have := HLL.out; omega, BZ.out⟩
          case measure => simp [intOf]; have := HLT.out; omega
        · have d7 : (q.k == 7) = false := by simpa using h7
          clear hi hc0 hca hra hll hb hqh hqv hq hlt h7
          have z0 := x0
          have z1 := (KC.out wr HB.out).2.1
          have z2 := (KC.out wr HB.out).2.2.1
          have z3 := (KC.out wr HB.out).2.2.2
          have DO := Lib.hid (do_any (z := q.k) (h := q.h) (vv := q.v) (r := q.r) HC.out HR.out H0.out GG.out HL8.out QH.out QV.out)
          have SL := Lib.hid (stepH_len L q.k q.h q.v q.r)
          generalize stepH L q.k q.h q.v q.r = L2 at *
          go_wp2_with fail
          refine DO.out.mono ?_
          rintro e wa ⟨rfl, ⟨moa, hca⟩, ⟨va, hra⟩, hba⟩
          have CA := Lib.hid hca
          have RA := Lib.hid hra
          have BA := Lib.hid (HB.out.trans hba)
          have LA : Hid (L2.length < 900) := Lib.hid (by have := SL.out; have := HL8.out; omega)
          have KA := Lib.hid (aliveA_any hca (by have := LA.out; omega))
          clear hca hra hba DO z0 z1 z2 z3
          go_wp2_with fail
          refine KA.out.mono ?_
          rintro e wb ⟨la, rfl, hla, hb⟩
          have BB := Lib.hid (below_tr BA.out hb BA.out.size)
          have CB2 := Lib.hid (CA.out.ab hb)
          have RB := Lib.hid (RA.out.ab hb)
          have NA := Lib.hid hla
          have KB := Lib.hid (ralive_any (RA.out.ab hb) (by have := LA.out; omega))
          clear hla hb KA
          go_wp2_with fail
          refine KB.out.mono ?_
          rintro e wd ⟨lb, rfl, hlb, hb⟩
          have BD := Lib.hid (below_tr BB.out hb BB.out.size)
          have CD := Lib.hid (CB2.out.ab hb)
          have RD := Lib.hid (RB.out.ab hb)
          have KD := Lib.hid (same25_any (NA.out.ab hb) hlb (by have := aliveF_len L2 0; have := LA.out; unfold aliveH; omega))
          clear hlb hb KB
          go_wp2_with fail
          refine KD.out.mono ?_
          rintro e wz ⟨rfl, hb⟩
          have BZ := Lib.hid (below_tr BD.out hb BD.out.size)
          have CZ := Lib.hid (CD.out.ab hb)
          have RZ := Lib.hid (RD.out.ab hb)
          clear hb KD
          go_wp2_with fail
          go_roundw
          case rel => exact ⟨i + 1, c0, moa, va, L2, HLT.out, by go_num, rfl, H0.out, CZ.out, RZ.out, by have := SL.out; have := HLL.out; omega, BZ.out⟩
          case measure => simp [intOf]; have := HLT.out; omega
      · obtain rfl : i = n := by omega
        have HB := Lib.hid hb
        clear hi hc0 hca hra hll hb hlt
        go_wp2_with fail
        refine (KN.out _).mono ?_
        rintro e w3 ⟨rfl, hb⟩
        have B3 := Lib.hid (below_tr HB.out hb HB.out.size)
        clear hb
        go_wp2_with fail
        go_ret
        exact ⟨rfl, B3.out⟩
theorem cplays_walk (v : Value) (w : World) (hk : ∃ base, Value.okWide Try.prog w .any base 35 v) {H : Type} {enc : TypeId × Value → H} {d : DataW H} {p : List MemPlace} (hd : DataW.Trod enc Try.prog w 0 (fun _ => true) true 35 v d p) (hp : ∀ x ∈ p, x.block < w.heap.size) :
    Calls Try.prog 5 #[v] w fun e w' => e = .returned (.bool true) ∧ Below w.heap.size w w' := by
  obtain ⟨base, hk⟩ := hk
  obtain ⟨A, n, c, qs, rfl, hq⟩ := open_ops25 hk hd hp
  exact cplays_any A n c qs w hq
end Go.Proofs.Ytdkdkjglbnlmcaa
