/-
  ReviveFree, ReviveApart: the walks.
-/
import Derived.Test.YtmeakfocppooiaaRnE
namespace Go.Proofs.Ytmeakfocppooiaa
open Go.RowKit Go.ChangeShapes Go.WideShapes
set_option linter.unusedVariables false

def rfVs (l : List Rf) : List Value := l.flatMap fun r => (rfV r).toList
theorem rfVs_len : ∀ l, (rfVs l).length = l.length * 3
  | [] => rfl
  | r :: l => by
    have := rfVs_len l
    unfold rfVs at this ⊢
    rw [List.flatMap_cons, List.length_append, this, List.length_cons]
    simp [rfV]
    omega
theorem rfVs_at : ∀ (l : List Rf) (i : Nat) (r : Rf), l[i]? = some r → ∀ (j : Nat) (u : Value), (rfV r)[j]? = some u → (rfVs l)[i * 3 + j]? = some u
  | [], i, r, h => by simp at h
  | t :: l, 0, r, h => fun j u hu => by
    simp only [List.getElem?_cons_zero, Option.some.injEq] at h
    subst h
    have hj : j < 3 := (Array.getElem?_eq_some_iff.1 hu).1
    unfold rfVs
    rw [List.flatMap_cons, List.getElem?_append_left (by simp [rfV]; omega)]
    simpa using hu
  | t :: l, i + 1, r, h => fun j u hu => by
    have := rfVs_at l i r (by simpa using h) j u hu
    unfold rfVs at this ⊢
    rw [List.flatMap_cons, List.getElem?_append_right (by simp [rfV]; omega)]
    rw [show (i + 1) * 3 + j - (rfV t).toList.length = i * 3 + j by simp [rfV]; omega]
    exact this
theorem rfVs_inv {l : List Rf} {k : Nat} {u : Value} (h : (rfVs l)[k]? = some u) : ∃ r, l[k / 3]? = some r ∧ (rfV r)[k % 3]? = some u := by
  have hk := (List.getElem?_eq_some_iff.1 h).1
  rw [rfVs_len] at hk
  obtain ⟨r, hr⟩ : ∃ r, l[k / 3]? = some r := ⟨_, List.getElem?_eq_getElem (by omega)⟩
  have hm : k % 3 < 3 := Nat.mod_lt _ (by decide)
  have hsz : k % 3 < (rfV r).size := hm
  have := rfVs_at l (k / 3) r hr (k % 3) _ (Array.getElem?_eq_getElem hsz)
  rw [show k / 3 * 3 + k % 3 = k by omega] at this
  rw [this] at h
  injection h with h
  exact ⟨r, hr, by rw [Array.getElem?_eq_getElem hsz, h]⟩
theorem rfVs_one (l : List Rf) : ∀ u ∈ rfVs l, u.oneCell' = true := by
  intro u hu
  unfold rfVs at hu
  obtain ⟨r, _, hr⟩ := List.mem_flatMap.1 hu
  simp [rfV] at hr
  rcases hr with rfl | rfl | rfl <;> rfl
theorem infoRf : (Try.prog.info? 33).map (fun i => (i.zero, i.size, i.bytes)) = some (some (.agg #[.int .u32 0, .int .u64 0, .int .u16 0]), 3, 24) := by kernel_rfl
set_option maxRecDepth 100000 in
/-- a copy of what came in -/
theorem wpList_copyF {rest : List Oper} {ops : Array Oper} {o : Oper} {a : Act} {w : World} {Q : Exit → Act → World → Prop} (hgd : o.guard = none) (s x : Operand)
    (ho : o.op = .call { callee := .builtin .append, args := #[s, x], argTypes := #[83, 83] })
    {g : Nat} (hs : a.eval s = .slice (some ⟨g, 0, none⟩) 0 0) (hg : CbB w g 33 #[]) {A : Option Addr} {n c : Nat} {l : List Rf} (hx : a.eval x = .slice A n c) (hr : RfB w A n c l) (hA : A = none → c = 0) (hl : n ≤ 1000000)
    (h : ∀ B m d w', RfB w' B m d l → Below g w w' → wpList Try.prog ops Q rest (a.put o.dst (.slice B m d)) w') : wpList Try.prog ops Q (o :: rest) a w := by
  obtain ⟨i0, hi0, hz0, hz1, hz2⟩ := info_parts infoRf
  have hlen := hr.len
  have hown : w.ownsRow g 33 3 (.slice (some ⟨g, 0, none⟩) 0 0) 0 [] := ⟨rfl, .inr ⟨g, 0, #[], rfl, Nat.le_refl _, hg, Nat.le_refl _, by decide, rfl, rfl⟩⟩
  have hap : ∃ v' w', (Builtin.append_ #[83, 83] o.type #[.slice (some ⟨g, 0, none⟩) 0 0, .slice A n c]).run Try.prog w = .ok v' w' ∧ w'.ownsRow g 33 3 v' n (rfVs l) ∧ w.grownBy w' (some g) := by
    cases A with
    | none =>
      have hc := hA rfl
      have hcap := hr.cap
      have hn0 : n = 0 := by omega
      have hm0 : l = [] := List.eq_nil_of_length_eq_zero (by omega)
      subst hc hn0 hm0
      exact ⟨_, w, run_append_owned_none (P := Try.prog) w g 83 o.type 33 i0 3 Try.underlying83 hi0 _ _ _ hown, hown, World.grownBy.refl w _⟩
    | some y =>
      have hcells : ∀ j u, (rfVs l)[j]? = some u → w.cell? (y.add j) = some u := fun j u hu => by
        obtain ⟨r, h1, h2⟩ := rfVs_inv hu
        obtain ⟨x, h3, _, h4⟩ := hr.cel _ r h1
        injection h3 with h3
        subst h3
        have := h4 _ _ h2
        rwa [show j / 3 * 3 + j % 3 = j by omega] at this
      obtain ⟨v1, W1, hrun, r1, r2, _⟩ := run_append_own_at (P := Try.prog) w g 83 o.type 33 i0 _ 3 24 Try.underlying83 hi0 hz0 hz1 hz2 rfl (by decide) _ 0 [] hown y n c (rfVs l) (by rw [rfVs_len, hlen]) hcells (rfVs_one l) (by simp only [maxLen]; omega) (by omega) (Nat.le_of_lt hg.lt)
      refine ⟨v1, W1, hrun, by simpa using r1, r2⟩
  obtain ⟨v', w', hrun, h1, h2⟩ := hap
  have hb : Below g w w' := ⟨h2.os, h2.tape, h2.output, h2.size, fun k hk => h2.block k (Nat.lt_trans hk hg.lt) (fun e => by injection e with e; omega)⟩
  have hrf : ∃ B m d, v' = .slice B m d ∧ RfB w' B m d l := by
    rcases h1.2 with ⟨rfl, h0⟩ | ⟨g', cap, cur, rfl, hg', hh, hnc, hcm, hcs, htk⟩
    · have hm0 : l = [] := List.eq_nil_of_length_eq_zero (by omega)
      subst hm0
      exact ⟨none, 0, 0, rfl, rfl, Nat.le_refl _, Nat.zero_le _, fun i r hr => by simp at hr, fun r hr => by cases hr⟩
    · refine ⟨_, _, _, rfl, hlen, hnc, hcm, fun i r hr' => ⟨_, rfl, (Array.getElem?_eq_some_iff.1 hh).1, fun j u hu => ?_⟩, hr.ok⟩
      exact World.ownsRow.cells h1 (g := g') rfl (i * 3 + j) u (rfVs_at l i r hr' j u hu)
  obtain ⟨B, m, d, rfl, h3⟩ := hrf
  refine wpList_plain hgd fun K hK => ?_
  unfold Oper.wp execOp
  simp only [ho, resolve, invoke, builtin, Sem.run_bind, Sem.run_pure, Result.andThen_ok, List.map_toArray, List.map_cons, List.map_nil, hs, hx, hrun]
  exact hK _ _ (h B m d w' h3 hb)
set_option maxRecDepth 100000 in
theorem eq_rf (a : Rf) (W : World) : (Op.equalIn 10000 33 (.agg #[.int .u32 (a.pg : Int), .int .u64 (a.cm : Int), .int .u16 (a.gn : Int)]) (.agg #[.int .u32 (a.pg : Int), .int .u64 (a.cm : Int), .int .u16 (a.gn : Int)])).run Try.prog W = .ok true W := by
  go_simp
set_option maxRecDepth 100000 in
set_option maxHeartbeats 8000000 in
theorem rfree_any (z : Int) (hzwf : (Lit.int .i64 z).wf = true) (A : Option Addr) (n c : Nat) (l : List Rf) (w : World) (h : RfB w A n c l) (hA : A = none → c = 0) :
    Calls Try.prog 8 #[.int .i64 z, .slice A n c] w fun e w' => e = .returned (.bool true) ∧ Below w.heap.size w w' := by
  have hn : (n : Int) ≤ 9223372036854775807 := by have := h.cap; have := h.max; unfold maxLen at this; omega
  have HR := Lib.hid h
  have HAN := Lib.hid hA
  by_cases h9 : 9000 < n
  · have h9' : (9000 : Int) < (n : Int) := by omega
    clear h hA h9 hzwf
    go_enter Try.func8, Try.ntmps8
    go_wp2_with fail
    refine (known21_any _).mono ?_
    rintro e w6 ⟨rfl, hb⟩
    have B6 := Lib.hid hb
    clear hb
    go_wp2_with fail
    go_ret
    exact ⟨rfl, B6.out⟩
  have h9' : ¬ (9000 : Int) < (n : Int) := by omega
  have H9 : Hid (n ≤ 9000) := Lib.hid (by omega)
  have WF := Lib.hid hzwf
  have A0 : Hid (Below w.heap.size w (w.alloc (.cells #[] 33))) := Lib.hid ((Below.refl _ _).alloc (Nat.le_refl _) _)
  clear h hA h9 hzwf
  go_enter Try.func8, Try.ntmps8
  go_wp2_with (refine wpList_copyF rfl (.tmp 15) (.tmp 16) rfl rfl (CbB.new _ _ _) rfl (HR.out.ab A0.out) HAN.out (by have := H9.out; omega) ?_
               intro B m d w1 hrf hb
               have R1 := Lib.hid hrf
               have B1 := Lib.hid (A0.out.trans hb)
               clear hrf hb)
  have hm : m = n := by rw [← R1.out.len, HR.out.len]
  subst hm
  refine (rvFree_any z B m d l w1 R1.out H9.out).mono ?_
  unfold FreeR
  rintro e w2 ⟨v2, rfl, hv2, hb2⟩
  obtain ⟨A2, c2, rfl, hr2, _⟩ := hv2.rn
  have N2 := Lib.hid hr2
  have B2 := Lib.hid (below_tr B1.out hb2 B1.out.size)
  have R2 := Lib.hid (R1.out.ab hb2)
  clear hv2 hb2 hr2 R1 B1 A0
  have HFR := Lib.hid (rfFree_any z WF.out A m c l w2 (HR.out.ab B2.out) H9.out)
  unfold FreeR at HFR
  generalize freeP z (l.map (·.pg)) = FP at *
  obtain ⟨FL, err⟩ := FP
  simp only at N2 HFR ⊢
  go_wp2_with fail
  refine HFR.out.mono ?_
  rintro e w3 ⟨v3, rfl, hv3, hb3⟩
  obtain ⟨A3, c3, rfl, hr3, _⟩ := hv3.rn
  have N3 := Lib.hid hr3
  have M3 := Lib.hid (N2.out.ab hb3)
  have B3 := Lib.hid (below_tr B2.out hb3 B2.out.size)
  have R3 := Lib.hid (R2.out.ab hb3)
  have O3 := Lib.hid (HR.out.ab B3.out)
  clear hv3 hb3 hr3 N2 B2 R2 HFR
  generalize w3 = wo at *
  go_wp2_with fail
  go_loopw [32] (fun z wx => ∃ j : Nat, j ≤ m ∧ z = .int .i64 (j : Int) ∧ Below wo.heap.size wo wx) (fun z _ => m - (intOf z).toNat)
  case atStart => exact ⟨0, Nat.zero_le _, rfl, Below.refl _ _⟩
  case round =>
    obtain ⟨j, hj, rfl, hbx⟩ := hrel
    by_cases hjl : j < m
    · obtain ⟨r, hr⟩ : ∃ r, l[j]? = some r := ⟨_, List.getElem?_eq_getElem (by rw [HR.out.len]; exact hjl)⟩
      obtain ⟨x, rfl, _, hcel⟩ := O3.out.at hr
      obtain ⟨y, rfl, _, hcel2⟩ := R3.out.at hr
      obtain ⟨r0, r1, r2⟩ := hcel _ hbx
      obtain ⟨q0, q1, q2⟩ := hcel2 _ hbx
      have hjlt : (j : Int) < (m : Int) := by omega
      have HJ := Lib.hid hjl
      have HX := Lib.hid hbx
      have heq := fun W => eq_rf r W
      clear hj hjl hbx hr hcel hcel2
      go_wp2_with fail
      go_quiet (fail)
      go_wp2_with fail
      go_roundw
      case rel => exact ⟨j + 1, HJ.out, by go_num, below_dn HX.out _⟩
      case measure => simp [intOf]; have := HJ.out; omega
    · obtain rfl : j = m := by omega
      have HX := Lib.hid (below_tr B3.out hbx B3.out.size)
      have HS := Lib.hid (sameR_any A2 A3 _ _ c2 c3 FL FL wr (M3.out.ab hbx) (N3.out.ab hbx))
      rw [decide_eq_true (rfl : FL = FL)] at HS
      have hee : ((err : Int) == (err : Int)) = true := by simp
      clear hj hjl hbx O3 R3 B3 N3 M3
      go_wp2_with fail
      refine HS.out.mono ?_
      rintro e w5 ⟨rfl, hb⟩
      have B5 := Lib.hid (below_tr HX.out hb HX.out.size)
      clear hb HS HX
      go_wp2_with fail
      refine (known21_any _).mono ?_
      rintro e w6 ⟨rfl, hb⟩
      have B6 := Lib.hid (below_tr B5.out hb B5.out.size)
      clear hb
      go_wp2_with fail
      go_ret
      exact ⟨rfl, B6.out⟩
set_option maxRecDepth 100000 in
theorem rfree_walk (z : Int) (v : Value) (w : World) (hz : (Lit.int .i64 z).wf = true) (hk : ∃ base, Value.okWide Try.prog w .any base 83 v) {H : Type} {enc : TypeId × Value → H} {d : DataW H} {p : List MemPlace} (hd : DataW.Trod enc Try.prog w 0 (fun _ => true) true 83 v d p) (hp : ∀ x ∈ p, x.block < w.heap.size) :
    Calls Try.prog 8 #[.int .i64 z, v] w fun e w' => e = .returned (.bool true) ∧ Below w.heap.size w w' := by
  obtain ⟨base, hk⟩ := hk
  obtain ⟨A, n, c, l, rfl, hl, hA⟩ := open_refs hk hd hp
  exact rfree_any z hz A n c l w hl hA
end Go.Proofs.Ytmeakfocppooiaa
