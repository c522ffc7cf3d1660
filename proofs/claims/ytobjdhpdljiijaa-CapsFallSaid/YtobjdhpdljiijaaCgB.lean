/-
  CAPS: CapsFall: the walk.
-/
import Derived.Test.YtobjdhpdljiijaaCgA
import Derived.Deep.CutRange
namespace Go.Proofs.Ytobjdhpdljiijaa
open Go.RowKit
set_option linter.unusedVariables false
set_option linter.unusedSimpArgs false

theorem quiet_skip {P : Program} {ops : Array Oper} {C : World → Prop} {Q : Act → Prop} {a : Act} {o : Oper} {rest : List Oper} (hg : Region.wanted o (yielded ops a.tmps) = false) (h2 : wpQuiet P ops C Q rest (a.put o.dst undef)) : wpQuiet P ops C Q (o :: rest) a := by
  refine wpQuiet_step fun K hK => ?_
  rw [if_neg (by rw [hg]; decide)]
  exact hK _ h2
theorem own_ne {a b : Option Nat} (h : ∀ x, b = some x → a ≠ some x) : a = none ∨ a ≠ b := by
  cases a with
  | none => exact .inl rfl
  | some x => exact .inr fun e => h x e.symm rfl
theorem nsb_cell {w : World} {B i c : Nat} {A : Option Addr} {l : List Nat} (h : U64.NsB w B (.slice A l.length c) l) (hi : i < l.length) : ∃ g, A = some ⟨g, 0, none⟩ ∧ ∀ W, Below w.heap.size w W → W.cell? ⟨g, i, none⟩ = some (.int .u64 ((l[i] : Nat) : Int)) := by
  obtain ⟨A1, c1, h1, h2⟩ := h.form
  injection h1 with h1 _ h3
  subst h1 h3
  obtain ⟨g, rfl, _⟩ := h2 i hi
  refine ⟨g, rfl, fun W hW => ?_⟩
  obtain ⟨A2, c2, h4, h5⟩ := (h.ab hW).form
  injection h4 with h4 _ h6
  subst h4
  obtain ⟨g2, h7, h8⟩ := h5 i hi
  injection h7 with h7
  injection h7 with h7
  subst h7
  exact h8
/-- the walk halts ahead of an append -/
def Stop (p : Prop) : Prop := p
theorem stop_dst (d : Nat) {op : Op} {ty : TypeId} {pos : String} {aft : Array Edge} {gd : Option (Nat × Bool)} {rest : List Oper} {ops : Array Oper} {a : Act} {w : World} {Q : Exit → Act → World → Prop} (h : Stop (wpList Try.prog ops Q ({ dst := some d, op := op, type := ty, pos := pos, after := aft, guard := gd } :: rest) a w)) : wpList Try.prog ops Q ({ dst := some d, op := op, type := ty, pos := pos, after := aft, guard := gd } :: rest) a w := h
/-- what the numbers that are gone are -/
def GonB (L : HL) (G : List Nat) : Prop := ∀ x ∈ G, x ≤ L.length ∧ atH L x = none
theorem GonB.step {L : HL} {G : List Nat} (h : GonB L G) (z : Int) (k v r : Nat) : GonB (stepH L z k v r) G := fun x hx => by
  obtain ⟨h1, h2⟩ := h x hx
  obtain ⟨h3, h4⟩ := step_dead z k v r h1 h2
  exact ⟨Nat.le_trans h1 h3, h4⟩
theorem GonB.more {L : HL} {G W : List Nat} (h : GonB L G) (hw : ∀ x ∈ W, x ≤ L.length) : GonB L (G ++ W.filter fun x => !decide (x ∈ aliveH L)) := fun x hx => by
  rcases List.mem_append.1 hx with hx | hx
  · exact h x hx
  · obtain ⟨h1, h2⟩ := List.mem_filter.1 hx
    refine ⟨hw x h1, ?_⟩
    have h3 : x ∉ aliveH L := by simpa using h2
    rw [aliveH_mem] at h3
    cases e : atH L x with
    | none => rfl
    | some y => rw [e] at h3; exact absurd rfl h3
theorem GonB.not {L : HL} {G : List Nat} (h : GonB L G) {x : Nat} (hx : x ∈ aliveH L) : decide (x ∈ G) = false := decide_eq_false fun hg => by
  have h1 := aliveH_mem.1 hx
  rw [(h x hg).2] at h1
  cases h1
def notIn (N : List Nat) (x : Nat) : Bool := !decide (x ∈ N)
theorem filt_succ {N W : List Nat} {k : Nat} (hk : k < W.length) : (W.take (k + 1)).filter (notIn N) = (W.take k).filter (notIn N) ++ (bif notIn N W[k] then [W[k]] else []) := by
  rw [List.take_add_one, List.getElem?_eq_getElem hk, Option.toList_some, List.filter_append]
  cases h : notIn N W[k] <;> simp [h]
set_option maxRecDepth 100000 in
set_option maxHeartbeats 8000000 in
theorem cfall_any (A : Option Addr) (n c : Nat) (qs : List OArg) (w : World) (h : OpB w A n c qs) : Calls Try.prog 3 #[.slice A n c] w fun e w' => e = .returned (.bool true) ∧ Below w.heap.size w w' := by
  have KN := Lib.hid fun W => known25_any W
  by_cases hn : 200 < n
  · have hni : (200 : Int) < (n : Int) := by omega
    clear h hn
    go_enter Try.func3, Try.ntmps3
    go_wp2_with fail
    refine (KN.out _).mono ?_
    rintro e w1 ⟨rfl, hb⟩
    have B1 := Lib.hid hb
    clear hb
    go_wp2_with fail
    go_ret
    exact ⟨rfl, B1.out⟩
  · have hni : ¬ (200 : Int) < (n : Int) := by omega
    have HN : Hid (n ≤ 200) := Lib.hid (by omega)
    have K0 := Lib.hid h
    clear h hn
    go_enter Try.func3, Try.ntmps3
    go_wp2_with fail
    refine (capsNew_any w).mono ?_
    rintro e w1 ⟨rfl, hc, hb⟩
    have C1 : Hid (CpA w1 w.heap.size w.heap.size none []) := Lib.hid ⟨⟨[], hc, fun k => by simp [getC, atH, nthH], by simp⟩, RightA.nil, by simp [aliveH, aliveF]⟩
    have B1 := Lib.hid hb
    clear hc hb
    go_wp2_with fail
    go_loopw [4, 5] (fun gv z wr => ∃ (i : Nat) (mo : Option Nat) (L : HL) (G : List Nat), i ≤ n ∧ z = .int .i64 (i : Int) ∧ CpA wr w.heap.size w.heap.size mo L ∧ RrA L ∧ U64.NsB wr w.heap.size gv G ∧ GonB L G ∧ L.length ≤ i ∧ G.length ≤ i * 64 ∧ Below w.heap.size w wr) (fun _ z _ => n - (intOf z).toNat)
    case atStart => exact ⟨0, none, [], [], Nat.zero_le _, rfl, C1.out, RrA.nil, U64.NsB.nil _ _, fun x hx => (by cases hx), Nat.zero_le _, Nat.zero_le _, B1.out⟩
    case round =>
      obtain ⟨i, mo, L, G, hi, rfl, hca, hrr, hgn, hgb, hll, hgl, hb⟩ := hrel
      have HC := Lib.hid hca
      have HB := Lib.hid hb
      have HRR := Lib.hid hrr
      have HGN := Lib.hid hgn
      have HGB := Lib.hid hgb
      have HLL := Lib.hid hll
      have HGL := Lib.hid hgl
      obtain ⟨gA, gc, hgv⟩ := row_shape hgn
      subst hgv
      have KA := Lib.hid (aliveA_any hca (by have := HN.out; omega))
      by_cases hlt : i < n
      · obtain ⟨q, hq⟩ : ∃ q, qs[i]? = some q := ⟨_, List.getElem?_eq_getElem (by rw [K0.out.len]; exact hlt)⟩
        obtain ⟨x, rfl, _, _, hqh, hqv, hqr⟩ := K0.out.cel i q hq
        have KC := Lib.hid (K0.out.keep hq)
        have QH := Lib.hid hqh
        have QV := Lib.hid hqv
        have QR := Lib.hid hqr
        have HLT := Lib.hid hlt
        have hlti : (i : Int) < (n : Int) := by omega
        clear hi hca hrr hgn hgb hll hgl hb hqh hqv hqr hq hlt
        go_wp2_with fail
        refine KA.out.mono ?_
        rintro e ww ⟨wv, rfl, hwv, hb⟩
        have WW := Lib.hid (below_tr HB.out hb HB.out.size)
        have C2 := Lib.hid (HC.out.ab hb)
        have G2 := Lib.hid (HGN.out.ab hb)
        have W2 := Lib.hid (show U64.NsB ww w.heap.size wv (aliveH L) from row_low hwv HB.out.size)
        have WN : Hid (∀ b, gA = some ⟨b, 0, none⟩ → wv.ownBlock ≠ some b) := Lib.hid fun b hb1 hb2 => by
          have h1 := own_ge9 hwv b hb2
          have h2 := HGN.out.lt (g := b) (by rw [hb1]; rfl)
          omega
        obtain ⟨wA, wq, hwve⟩ := row_shape hwv
        subst hwve
        have WL : Hid (aliveH L = aliveH L) := Lib.hid rfl
        have FEW := Lib.hid HC.out.few
        have WLE : Hid (∀ x ∈ aliveH L, x ≤ L.length) := Lib.hid fun x hx => (aliveH_le hx).2
        have x0 := (KC.out ww WW.out).1
        clear hwv hb KA HC HGN HB
        dsimp only
        iterate 8 (first | go_values | go_step | go_simp)
        have STEP := Lib.hid (fun z => HGB.out.step z q.h q.v q.r)
        have SRR := Lib.hid (fun z => HRR.out.step C2.out.right z q.h q.v q.r QR.out)
        have SLN := Lib.hid (fun z => stepH_len L z q.h q.v q.r)
        have SLM := Lib.hid (fun z => step_len (A := L) z q.h q.v q.r)
        go_cut [] from 22 to 104 (fun wx => ∃ (mo9 : Option Nat) (L2 : HL), CpA wx w.heap.size w.heap.size mo9 L2 ∧ GonB L2 G ∧ RrA L2 ∧ L2.length ≤ L.length + 1 ∧ L.length ≤ L2.length ∧ Below w.heap.size w wx ∧ U64.NsB wx w.heap.size (.slice gA G.length gc) G ∧ U64.NsB wx w.heap.size (.slice wA (aliveH L).length wq) (aliveH L))
        case first =>
          by_cases h0 : q.k = 0
          · have d0 : (q.k == 0) = true := by simp [h0]
            clear h0
            have K9 := Lib.hid (attachA_any C2.out (by have := HN.out; have := HLL.out; omega))
            have T1 := Lib.hid (STEP.out 0)
            have T2 := Lib.hid (SRR.out 0)
            have T3 := Lib.hid (SLN.out 0)
            have T4 := Lib.hid (SLM.out 0)
            have e9 : stepH L 0 q.h q.v q.r = (putH L 15 0).2 := rfl
            rw [e9] at T1 T2 T3 T4
            clear e9 STEP SRR SLN SLM
            generalize (putH L 15 0).1 = P9 at *
            generalize (putH L 15 0).2 = L2 at *
            go_wp2_with fail
            refine K9.out.mono ?_
            rintro e w9 ⟨rfl, mo9, hc9, hf9, _⟩
            have C9 := Lib.hid hc9
            have B9 := Lib.hid (WW.out.trans (belowC (Nat.le_refl _) C2.out hf9))
            have G9 := Lib.hid (nsb_frC G2.out C2.out hf9)
            have W9 := Lib.hid (nsb_frC W2.out C2.out hf9)
            clear hc9 hf9 K9 G2 W2 C2
            go_wp2_with fail
            go_meet
            case rel => exact ⟨mo9, L2, C9.out, T1.out, T2.out, T3.out, T4.out, B9.out, G9.out, W9.out⟩
          by_cases h1 : q.k = 1
          · have d0 : (q.k == 0) = false := by simpa using h0
            have d1 : (q.k == 1) = true := by simp [h1]
            clear h0 h1
            have K9 := Lib.hid fun W (hW : Below ww.heap.size ww W) => giveA_any q.h q.r (C2.out.ab hW) QH.out (by have := HN.out; have := HLL.out; omega)
            have T1 := Lib.hid (STEP.out 1)
            have T2 := Lib.hid (SRR.out 1)
            have T3 := Lib.hid (SLN.out 1)
            have T4 := Lib.hid (SLM.out 1)
            have e9 : stepH L 1 q.h q.v q.r = (giveH L q.h q.r).2 := rfl
            rw [e9] at T1 T2 T3 T4
            clear e9 STEP SRR SLN SLM
            generalize (giveH L q.h q.r).1 = P9 at *
            generalize (giveH L q.h q.r).2 = L2 at *
            go_upto_region 13 with (fail)
            refine wp_wide3 [⟨41, IsR (.pointer (some ⟨w.heap.size, 0, none⟩)), [], false⟩, ⟨42, IsR (.slice (some x) n c), [], false⟩, ⟨43, IsR (.int .i64 (i : Int)), [], false⟩, ⟨44, IsR (.pointer (some (x.add (i * 4)))), [1, 2], false⟩, ⟨45, IsR (.pointer (some ((x.add (i * 4)).add 1))), [3], false⟩, ⟨46, IsR (.int .u64 (q.h : Int)), [4], false⟩, ⟨47, IsR (.slice (some x) n c), [], false⟩, ⟨48, IsR (.int .i64 (i : Int)), [], false⟩, ⟨49, IsR (.pointer (some (x.add (i * 4)))), [6, 7], false⟩, ⟨50, IsR (.pointer (some ((x.add (i * 4)).add 3))), [8], false⟩, ⟨51, IsR (.int .u8 (q.r : Int)), [9], false⟩] (by kernel_rfl) (by kernel_rfl) rfl rfl rfl ⟨?_, ?_, ?_, ?_, ?_, ?_, ?_, ?_, ?_, ?_, ?_, trivial⟩ ?_
            · refine ⟨rfl, IsR.mono _, fun a W hA hb hd => takes_plain rfl (yields_value _ ?_ rfl)⟩
              have h3 : a.tmps[3]?.getD undef = .pointer (some ⟨w.heap.size, 0, none⟩) := (eval_get a 3).trans ((hA.eval (by simp)).trans rfl)
              go_simp
            · refine ⟨rfl, IsR.mono _, fun a W hA hb hd => takes_plain rfl (yields_value _ ?_ rfl)⟩
              have h0 : a.tmps[0]?.getD undef = .slice (some x) n c := (eval_get a 0).trans ((hA.eval (by simp)).trans rfl)
              go_simp
            · refine ⟨rfl, IsR.mono _, fun a W hA hb hd => takes_plain rfl (yields_value _ ?_ rfl)⟩
              have h5 : a.tmps[5]?.getD undef = .int .i64 (i : Int) := (eval_get a 5).trans ((hA.eval (by simp)).trans rfl)
              go_simp
            · refine ⟨rfl, IsR.mono _, fun a W hA hb hd => takes_plain rfl (yields_value _ ?_ rfl)⟩
              have h42 : a.tmps[42]?.getD undef = .slice (some x) n c := (eval_get a 42).trans (hd 1 (by simp) _ rfl)
              have h43 : a.tmps[43]?.getD undef = .int .i64 (i : Int) := (eval_get a 43).trans (hd 2 (by simp) _ rfl)
              go_simp
            · refine ⟨rfl, IsR.mono _, fun a W hA hb hd => takes_plain rfl (yields_value _ ?_ rfl)⟩
              have h44 : a.tmps[44]?.getD undef = .pointer (some (x.add (i * 4))) := (eval_get a 44).trans (hd 3 (by simp) _ rfl)
              go_simp
            · refine ⟨rfl, IsR.mono _, fun a W hA hb hd => takes_plain rfl (yields_value _ ?_ rfl)⟩
              have h45 : a.tmps[45]?.getD undef = .pointer (some ((x.add (i * 4)).add 1)) := (eval_get a 45).trans (hd 4 (by simp) _ rfl)
              have hcc : W.cell? ⟨(x.add (i * 4)).block, (x.add (i * 4)).off + 1, none⟩ = some (.int .u64 (q.h : Int)) := (KC.out W (below_tr WW.out hb WW.out.size)).2.1
              go_simp
            · refine ⟨rfl, IsR.mono _, fun a W hA hb hd => takes_plain rfl (yields_value _ ?_ rfl)⟩
              have h0 : a.tmps[0]?.getD undef = .slice (some x) n c := (eval_get a 0).trans ((hA.eval (by simp)).trans rfl)
              go_simp
            · refine ⟨rfl, IsR.mono _, fun a W hA hb hd => takes_plain rfl (yields_value _ ?_ rfl)⟩
              have h5 : a.tmps[5]?.getD undef = .int .i64 (i : Int) := (eval_get a 5).trans ((hA.eval (by simp)).trans rfl)
              go_simp
            · refine ⟨rfl, IsR.mono _, fun a W hA hb hd => takes_plain rfl (yields_value _ ?_ rfl)⟩
              have h47 : a.tmps[47]?.getD undef = .slice (some x) n c := (eval_get a 47).trans (hd 6 (by simp) _ rfl)
              have h48 : a.tmps[48]?.getD undef = .int .i64 (i : Int) := (eval_get a 48).trans (hd 7 (by simp) _ rfl)
              go_simp
            · refine ⟨rfl, IsR.mono _, fun a W hA hb hd => takes_plain rfl (yields_value _ ?_ rfl)⟩
              have h49 : a.tmps[49]?.getD undef = .pointer (some (x.add (i * 4))) := (eval_get a 49).trans (hd 8 (by simp) _ rfl)
              go_simp
            · refine ⟨rfl, IsR.mono _, fun a W hA hb hd => takes_plain rfl (yields_value _ ?_ rfl)⟩
              have h50 : a.tmps[50]?.getD undef = .pointer (some ((x.add (i * 4)).add 3)) := (eval_get a 50).trans (hd 9 (by simp) _ rfl)
              have hcc : W.cell? ⟨(x.add (i * 4)).block, (x.add (i * 4)).off + 3, none⟩ = some (.int .u8 (q.r : Int)) := (KC.out W (below_tr WW.out hb WW.out.size)).2.2.2
              go_simp
            intro vs w3 hR hF hb
            have e41 : vs 41 = .pointer (some ⟨w.heap.size, 0, none⟩) := hR 0 _ rfl
            have e42 : vs 42 = .slice (some x) n c := hR 1 _ rfl
            have e43 : vs 43 = .int .i64 (i : Int) := hR 2 _ rfl
            have e44 : vs 44 = .pointer (some (x.add (i * 4))) := hR 3 _ rfl
            have e45 : vs 45 = .pointer (some ((x.add (i * 4)).add 1)) := hR 4 _ rfl
            have e46 : vs 46 = .int .u64 (q.h : Int) := hR 5 _ rfl
            have e47 : vs 47 = .slice (some x) n c := hR 6 _ rfl
            have e48 : vs 48 = .int .i64 (i : Int) := hR 7 _ rfl
            have e49 : vs 49 = .pointer (some (x.add (i * 4))) := hR 8 _ rfl
            have e50 : vs 50 = .pointer (some ((x.add (i * 4)).add 3)) := hR 9 _ rfl
            have e51 : vs 51 = .int .u8 (q.r : Int) := hR 10 _ rfl
            simp only [List.map_cons, List.map_nil, List.foldl_cons, List.foldl_nil, List.length_cons, List.length_nil, List.drop_succ_cons, List.drop_zero, Act.put, List.setIfInBounds_toArray, List.set_cons_zero, List.set_cons_succ, e41, e42, e43, e44, e45, e46, e47, e48, e49, e50, e51]
            have BW := Lib.hid hb
            clear hR hF hb e41 e42 e43 e44 e45 e46 e47 e48 e49 e50 e51
            go_wp2_with fail
            refine (K9.out _ BW.out).mono ?_
            rintro e w9 ⟨rfl, mo9, hc9, hf9, _⟩
            have C3 := Lib.hid (C2.out.ab BW.out)
            have B3 := Lib.hid (below_tr WW.out BW.out WW.out.size)
            have G3 := Lib.hid (G2.out.ab BW.out)
            have W3 := Lib.hid (W2.out.ab BW.out)
            have C9 := Lib.hid hc9
            have B9 := Lib.hid (B3.out.trans (belowC (Nat.le_refl _) C3.out hf9))
            have G9 := Lib.hid (nsb_frC G3.out C3.out hf9)
            have W9 := Lib.hid (nsb_frC W3.out C3.out hf9)
            clear hc9 hf9 K9 G2 W2 C2 C3 B3 G3 W3 BW
            go_wp2_with fail
            go_meet
            case rel => exact ⟨mo9, L2, C9.out, T1.out, T2.out, T3.out, T4.out, B9.out, G9.out, W9.out⟩
          by_cases h2 : q.k = 2
          · have d0 : (q.k == 0) = false := by simpa using h0
            have d1 : (q.k == 1) = false := by simpa using h1
            have d2 : (q.k == 2) = true := by simp [h2]
            clear h0 h1 h2
            have K9 := Lib.hid fun W (hW : Below ww.heap.size ww W) => revokeA_any (h := q.h) (v := q.v) (C2.out.ab hW) QH.out QV.out (by have := HN.out; have := HLL.out; omega)
            have T1 := Lib.hid (STEP.out 2)
            have T2 := Lib.hid (SRR.out 2)
            have T3 := Lib.hid (SLN.out 2)
            have T4 := Lib.hid (SLM.out 2)
            have e9 : stepH L 2 q.h q.v q.r = (revokeH L q.h q.v).2 := rfl
            rw [e9] at T1 T2 T3 T4
            clear e9 STEP SRR SLN SLM
            generalize (revokeH L q.h q.v).1 = P9 at *
            generalize (revokeH L q.h q.v).2 = L2 at *
            go_upto_region 15 with (fail)
            refine wp_wide3 [⟨55, IsR (.pointer (some ⟨w.heap.size, 0, none⟩)), [], false⟩, ⟨56, IsR (.slice (some x) n c), [], false⟩, ⟨57, IsR (.int .i64 (i : Int)), [], false⟩, ⟨58, IsR (.pointer (some (x.add (i * 4)))), [1, 2], false⟩, ⟨59, IsR (.pointer (some ((x.add (i * 4)).add 1))), [3], false⟩, ⟨60, IsR (.int .u64 (q.h : Int)), [4], false⟩, ⟨61, IsR (.slice (some x) n c), [], false⟩, ⟨62, IsR (.int .i64 (i : Int)), [], false⟩, ⟨63, IsR (.pointer (some (x.add (i * 4)))), [6, 7], false⟩, ⟨64, IsR (.pointer (some ((x.add (i * 4)).add 2))), [8], false⟩, ⟨65, IsR (.int .u64 (q.v : Int)), [9], false⟩] (by kernel_rfl) (by kernel_rfl) rfl rfl rfl ⟨?_, ?_, ?_, ?_, ?_, ?_, ?_, ?_, ?_, ?_, ?_, trivial⟩ ?_
            · refine ⟨rfl, IsR.mono _, fun a W hA hb hd => takes_plain rfl (yields_value _ ?_ rfl)⟩
              have h3 : a.tmps[3]?.getD undef = .pointer (some ⟨w.heap.size, 0, none⟩) := (eval_get a 3).trans ((hA.eval (by simp)).trans rfl)
              go_simp
            · refine ⟨rfl, IsR.mono _, fun a W hA hb hd => takes_plain rfl (yields_value _ ?_ rfl)⟩
              have h0 : a.tmps[0]?.getD undef = .slice (some x) n c := (eval_get a 0).trans ((hA.eval (by simp)).trans rfl)
              go_simp
            · refine ⟨rfl, IsR.mono _, fun a W hA hb hd => takes_plain rfl (yields_value _ ?_ rfl)⟩
              have h5 : a.tmps[5]?.getD undef = .int .i64 (i : Int) := (eval_get a 5).trans ((hA.eval (by simp)).trans rfl)
              go_simp
            · refine ⟨rfl, IsR.mono _, fun a W hA hb hd => takes_plain rfl (yields_value _ ?_ rfl)⟩
              have h56 : a.tmps[56]?.getD undef = .slice (some x) n c := (eval_get a 56).trans (hd 1 (by simp) _ rfl)
              have h57 : a.tmps[57]?.getD undef = .int .i64 (i : Int) := (eval_get a 57).trans (hd 2 (by simp) _ rfl)
              go_simp
            · refine ⟨rfl, IsR.mono _, fun a W hA hb hd => takes_plain rfl (yields_value _ ?_ rfl)⟩
              have h58 : a.tmps[58]?.getD undef = .pointer (some (x.add (i * 4))) := (eval_get a 58).trans (hd 3 (by simp) _ rfl)
              go_simp
            · refine ⟨rfl, IsR.mono _, fun a W hA hb hd => takes_plain rfl (yields_value _ ?_ rfl)⟩
              have h59 : a.tmps[59]?.getD undef = .pointer (some ((x.add (i * 4)).add 1)) := (eval_get a 59).trans (hd 4 (by simp) _ rfl)
              have hcc : W.cell? ⟨(x.add (i * 4)).block, (x.add (i * 4)).off + 1, none⟩ = some (.int .u64 (q.h : Int)) := (KC.out W (below_tr WW.out hb WW.out.size)).2.1
              go_simp
            · refine ⟨rfl, IsR.mono _, fun a W hA hb hd => takes_plain rfl (yields_value _ ?_ rfl)⟩
              have h0 : a.tmps[0]?.getD undef = .slice (some x) n c := (eval_get a 0).trans ((hA.eval (by simp)).trans rfl)
              go_simp
            · refine ⟨rfl, IsR.mono _, fun a W hA hb hd => takes_plain rfl (yields_value _ ?_ rfl)⟩
              have h5 : a.tmps[5]?.getD undef = .int .i64 (i : Int) := (eval_get a 5).trans ((hA.eval (by simp)).trans rfl)
              go_simp
            · refine ⟨rfl, IsR.mono _, fun a W hA hb hd => takes_plain rfl (yields_value _ ?_ rfl)⟩
              have h61 : a.tmps[61]?.getD undef = .slice (some x) n c := (eval_get a 61).trans (hd 6 (by simp) _ rfl)
              have h62 : a.tmps[62]?.getD undef = .int .i64 (i : Int) := (eval_get a 62).trans (hd 7 (by simp) _ rfl)
              go_simp
            · refine ⟨rfl, IsR.mono _, fun a W hA hb hd => takes_plain rfl (yields_value _ ?_ rfl)⟩
              have h63 : a.tmps[63]?.getD undef = .pointer (some (x.add (i * 4))) := (eval_get a 63).trans (hd 8 (by simp) _ rfl)
              go_simp
            · refine ⟨rfl, IsR.mono _, fun a W hA hb hd => takes_plain rfl (yields_value _ ?_ rfl)⟩
              have h64 : a.tmps[64]?.getD undef = .pointer (some ((x.add (i * 4)).add 2)) := (eval_get a 64).trans (hd 9 (by simp) _ rfl)
              have hcc : W.cell? ⟨(x.add (i * 4)).block, (x.add (i * 4)).off + 2, none⟩ = some (.int .u64 (q.v : Int)) := (KC.out W (below_tr WW.out hb WW.out.size)).2.2.1
              go_simp
            intro vs w3 hR hF hb
            have e55 : vs 55 = .pointer (some ⟨w.heap.size, 0, none⟩) := hR 0 _ rfl
            have e56 : vs 56 = .slice (some x) n c := hR 1 _ rfl
            have e57 : vs 57 = .int .i64 (i : Int) := hR 2 _ rfl
            have e58 : vs 58 = .pointer (some (x.add (i * 4))) := hR 3 _ rfl
            have e59 : vs 59 = .pointer (some ((x.add (i * 4)).add 1)) := hR 4 _ rfl
            have e60 : vs 60 = .int .u64 (q.h : Int) := hR 5 _ rfl
            have e61 : vs 61 = .slice (some x) n c := hR 6 _ rfl
            have e62 : vs 62 = .int .i64 (i : Int) := hR 7 _ rfl
            have e63 : vs 63 = .pointer (some (x.add (i * 4))) := hR 8 _ rfl
            have e64 : vs 64 = .pointer (some ((x.add (i * 4)).add 2)) := hR 9 _ rfl
            have e65 : vs 65 = .int .u64 (q.v : Int) := hR 10 _ rfl
            simp only [List.map_cons, List.map_nil, List.foldl_cons, List.foldl_nil, List.length_cons, List.length_nil, List.drop_succ_cons, List.drop_zero, Act.put, List.setIfInBounds_toArray, List.set_cons_zero, List.set_cons_succ, e55, e56, e57, e58, e59, e60, e61, e62, e63, e64, e65]
            have BW := Lib.hid hb
            clear hR hF hb e55 e56 e57 e58 e59 e60 e61 e62 e63 e64 e65
            go_wp2_with fail
            refine (K9.out _ BW.out).mono ?_
            rintro e w9 ⟨rfl, mo9, hc9, hf9, _⟩
            have C3 := Lib.hid (C2.out.ab BW.out)
            have B3 := Lib.hid (below_tr WW.out BW.out WW.out.size)
            have G3 := Lib.hid (G2.out.ab BW.out)
            have W3 := Lib.hid (W2.out.ab BW.out)
            have C9 := Lib.hid hc9
            have B9 := Lib.hid (B3.out.trans (belowC (Nat.le_refl _) C3.out hf9))
            have G9 := Lib.hid (nsb_frC G3.out C3.out hf9)
            have W9 := Lib.hid (nsb_frC W3.out C3.out hf9)
            clear hc9 hf9 K9 G2 W2 C2 C3 B3 G3 W3 BW
            go_wp2_with fail
            go_meet
            case rel => exact ⟨mo9, L2, C9.out, T1.out, T2.out, T3.out, T4.out, B9.out, G9.out, W9.out⟩
          by_cases h6 : q.k = 6
          · have d0 : (q.k == 0) = false := by simpa using h0
            have d1 : (q.k == 1) = false := by simpa using h1
            have d2 : (q.k == 2) = false := by simpa using h2
            have d6 : (q.k == 6) = true := by simp [h6]
            clear h0 h1 h2 h6
            have K9 := Lib.hid fun W (hW : Below ww.heap.size ww W) => clearA_any (C2.out.ab hW)
            have T1 := Lib.hid (STEP.out 6)
            have T2 := Lib.hid (SRR.out 6)
            have T3 := Lib.hid (SLN.out 6)
            have T4 := Lib.hid (SLM.out 6)
            have e9 : stepH L 6 q.h q.v q.r = clearH L := rfl
            rw [e9] at T1 T2 T3 T4
            clear e9 STEP SRR SLN SLM
            generalize clearH L = L2 at *
            go_wp2_with fail
            refine (K9.out _ (Below.refl _ _)).mono ?_
            rintro e w9 ⟨rfl, hc9, hf9⟩
            have C3 := C2
            have B3 := WW
            have G3 := G2
            have W3 := W2
            have C9 := Lib.hid hc9
            have B9 := Lib.hid (B3.out.trans (belowC (Nat.le_refl _) C3.out hf9))
            have G9 := Lib.hid (nsb_frC G3.out C3.out hf9)
            have W9 := Lib.hid (nsb_frC W3.out C3.out hf9)
            clear hc9 hf9 K9 G2 W2 C2 C3 B3 G3 W3
            go_wp2_with fail
            go_meet
            case rel => exact ⟨mo, L2, C9.out, T1.out, T2.out, T3.out, T4.out, B9.out, G9.out, W9.out⟩
          have e9 : stepH L q.k q.h q.v q.r = L := by unfold stepH; rw [if_neg h0, if_neg h1, if_neg h2, if_neg h6]
          have d0 : (q.k == 0) = false := by simpa using h0
          have d1 : (q.k == 1) = false := by simpa using h1
          have d2 : (q.k == 2) = false := by simpa using h2
          have d6 : (q.k == 6) = false := by simpa using h6
          have T1 := STEP.out q.k
          have T2 := SRR.out q.k
          have T3 := SLN.out q.k
          have T4 := SLM.out q.k
          rw [e9] at T1 T2 T3 T4
          obtain ⟨L2, hL2⟩ : ∃ L2, L2 = L := ⟨L, rfl⟩
          have C9 : Hid (CpA ww w.heap.size w.heap.size mo L2) := Lib.hid (by rw [hL2]; exact C2.out)
          have T1 : Hid (GonB L2 G) := Lib.hid (by rw [hL2]; exact T1)
          have T2 : Hid (RrA L2) := Lib.hid (by rw [hL2]; exact T2)
          have T3 : Hid (L2.length ≤ L.length + 1) := Lib.hid (by rw [hL2]; exact T3)
          have T4 : Hid (L.length ≤ L2.length) := Lib.hid (by rw [hL2]; exact T4)
          have B9 := WW
          have G9 := G2
          have W9 := W2
          clear e9 STEP SRR SLN SLM G2 W2 C2 WW hL2 h0 h1 h2 h6
          go_wp2_with fail
          go_meet
          case rel => exact ⟨mo, L2, C9.out, T1.out, T2.out, T3.out, T4.out, B9.out, G9.out, W9.out⟩
        case rest =>
          clear x0 STEP SRR SLN SLM C2 G2 W2 WW
          generalize ww = wu at *
          obtain ⟨mo9, L2, z1, z2, z3, z4, z5, z6, z7, z8⟩ := hcut
          have C9 := Lib.hid z1
          have T1 := Lib.hid z2
          have T2 := Lib.hid z3
          have T3 := Lib.hid z4
          have T4 := Lib.hid z5
          have B9 := Lib.hid z6
          have G9 := Lib.hid z7
          have W9 := Lib.hid z8
          clear z1 z2 z3 z4 z5 z6 z7 z8
          have KN9 := Lib.hid (aliveA_any C9.out (by have := T3.out; have := HN.out; have := HLL.out; omega))
          go_wp2_with fail
          refine KN9.out.mono ?_
          rintro e wn ⟨nv, rfl, hnv, hb⟩
          have BN := Lib.hid (below_tr B9.out hb B9.out.size)
          have CN := Lib.hid (C9.out.ab hb)
          have GN := Lib.hid (G9.out.ab hb)
          have WN9 := Lib.hid (W9.out.ab hb)
          have NN := Lib.hid (show U64.NsB wn w.heap.size nv (aliveH L2) from row_low hnv B9.out.size)
          have NG : Hid (∀ b, gA = some ⟨b, 0, none⟩ → nv.ownBlock ≠ some b) := Lib.hid fun b hb1 hb2 => by
            have h1 := own_ge9 hnv b hb2
            have h2 := G9.out.lt (g := b) (by rw [hb1]; rfl)
            omega
          obtain ⟨nA, nc, hnve⟩ := row_shape hnv
          subst hnve
          have FN := Lib.hid C9.out.few
          clear hnv hb KN9 C9 G9 W9 B9
          have GNE : Hid (∀ b, (Value.slice gA G.length gc).ownBlock = some b → (Value.slice wA (aliveH L).length wq).ownBlock ≠ some b ∧ (Value.slice nA (aliveH L2).length nc).ownBlock ≠ some b) := Lib.hid fun b hb1 => by
            rcases GN.out.2 with ⟨he, _⟩ | ⟨b', cap', cur', he, _⟩
            · rw [he] at hb1; cases hb1
            · injection he with he1 _ _
              rw [he1] at hb1
              simp only [Value.ownBlock, Option.some.injEq] at hb1
              subst hb1
              exact ⟨WN.out _ he1, NG.out _ he1⟩
          obtain ⟨WL2, hWL2⟩ : ∃ X, X = aliveH L := ⟨_, rfl⟩
          obtain ⟨NL, hNL⟩ : ∃ X, X = aliveH L2 := ⟨_, rfl⟩
          have T5 : Hid (GonB L2 (G ++ WL2.filter (notIn NL))) := Lib.hid (by
            rw [hWL2, hNL]
            exact T1.out.more fun x hx => Nat.le_trans (WLE.out x hx) T4.out)
          have T6 : Hid (∀ x ∈ NL, x ∈ aliveH L2) := Lib.hid fun x hx => by rw [← hNL]; exact hx
          rw [← hWL2] at WN9 GNE FEW ⊢
          rw [← hNL] at NN GNE FN ⊢
          clear hWL2 hNL WN NG T1
          have hwl : (WL2.length : Int) ≤ 64 := by have := FEW.out; omega
          have hnl : (NL.length : Int) ≤ 64 := by have := FN.out; omega
          go_wp2_with fail
          generalize wn = wo at *
          obtain ⟨gv, hgv⟩ : ∃ gv, gv = Value.slice gA G.length gc := ⟨_, rfl⟩
          rw [← hgv] at GN GNE
          go_loopw [4, 8] (fun gz z wr => ∃ (k : Nat), k ≤ WL2.length ∧ z = .int .i64 (k : Int) ∧ U64.NsB wr w.heap.size gz (G ++ (WL2.take k).filter (notIn NL)) ∧ U64.NsB wr w.heap.size (.slice wA WL2.length wq) WL2 ∧ U64.NsB wr w.heap.size (.slice nA NL.length nc) NL ∧ CpA wr w.heap.size w.heap.size mo9 L2 ∧ Below w.heap.size w wr ∧ (∀ b, gz.ownBlock = some b → (Value.slice wA WL2.length wq).ownBlock ≠ some b ∧ (Value.slice nA NL.length nc).ownBlock ≠ some b)) (fun _ z _ => WL2.length - (intOf z).toNat)
          case atStart => exact ⟨0, Nat.zero_le _, rfl, by rw [← hgv]; simpa using GN.out, WN9.out, NN.out, CN.out, BN.out, by rw [← hgv]; exact GNE.out⟩
          case round =>
            clear GN WN9 NN CN BN GNE hgv
            obtain ⟨k, hk, rfl, hg, hwk, hnk, hck, hbk, hne⟩ := hrel
            obtain ⟨gA2, gc2, hg2⟩ := row_shape hg
            have GK := Lib.hid hg
            have WK := Lib.hid hwk
            have NK := Lib.hid hnk
            have CK := Lib.hid hck
            have BK := Lib.hid hbk
            have NE := Lib.hid hne
            by_cases hkl : k < WL2.length
            · obtain ⟨_, _, hs1, hcel⟩ := hwk.form
              injection hs1 with hs1 _ hs2
              subst hs1 hs2
              obtain ⟨wb, hwb, hxk⟩ := hcel k hkl
              subst hwb
              have KI : Hid (Calls Try.prog 11 #[.slice nA NL.length nc, .int .u64 ((WL2[k] : Nat) : Int)] wr fun e w' => e = .returned (.bool (!notIn NL WL2[k])) ∧ wr = w') := Lib.hid ((in25_any (x := WL2[k]) hnk (by have := FN.out; omega)).mono fun e w' h => ⟨by rw [h.1]; simp [notIn], h.2⟩)
              have FS : Hid (G ++ (WL2.take (k + 1)).filter (notIn NL) = (G ++ (WL2.take k).filter (notIn NL)) ++ (bif notIn NL WL2[k] then [WL2[k]] else [])) := Lib.hid (by rw [filt_succ hkl, List.append_assoc])
              have HKL := Lib.hid hkl
              have hkli : (k : Int) < (WL2.length : Int) := by omega
              have LEN : Hid ((G ++ (WL2.take k).filter (notIn NL)).length ≤ 100000) := Lib.hid (by
                rw [List.length_append]
                have h1 := List.length_filter_le (notIn NL) (WL2.take k)
                have h2 := List.length_take_le k WL2
                have := FEW.out; have := HGL.out; have := HN.out; have := HLT.out; omega)
              generalize WL2[k] = xk at *
              rw [hg2] at GK NE
              have HG2 := Lib.hid hg2
              subst hg2
              generalize G ++ (WL2.take k).filter (notIn NL) = GL at *
              clear hk hg hwk hnk hck hbk hne hkl hcel HG2
              cases hb1 : notIn NL xk
              · rw [hb1] at KI FS
                clear hb1
                try simp only [Bool.not_false, Bool.not_true, cond_false, cond_true, List.append_nil] at KI FS
                go_wp2_with fail
                refine KI.out.mono ?_
                rintro e wz ⟨rfl, rfl⟩
                clear KI
                go_wp2_with fail
                go_roundw
                case rel => exact ⟨k + 1, HKL.out, by go_num, by rw [FS.out]; exact GK.out, WK.out, NK.out, CK.out, BK.out, NE.out⟩
                case measure => simp [intOf]; have := HKL.out; omega
              · rw [hb1] at KI FS
                clear hb1
                try simp only [Bool.not_false, Bool.not_true, cond_false, cond_true] at KI FS
                have ha : Below wr.heap.size wr (wr.alloc (.cells #[.int .u64 (xk : Int)] 28)) := (Below.refl _ _).alloc (Nat.le_refl _) _
                have GC : Hid (CbB (wr.alloc (.cells #[.int .u64 (xk : Int)] 28)) wr.heap.size 28 #[.int .u64 (xk : Int)]) := Lib.hid (CbB.new _ _ _)
                have GA := Lib.hid (GK.out.ab ha)
                have WA := Lib.hid (WK.out.ab ha)
                have NA := Lib.hid (NK.out.ab ha)
                have CA := Lib.hid (CK.out.ab ha)
                have BA := Lib.hid (below_tr BK.out ha BK.out.size)
                clear ha
                go_wp2_with fail
                refine KI.out.mono ?_
                rintro e wz ⟨rfl, rfl⟩
                clear KI
                go_wp2_with (first | (with_reducible refine stop_dst 92 ?_))
                unfold Stop
                refine U64.wpList_appN2 rfl (.tmp 86) (.tmp 91) rfl (B := w.heap.size) GA.out rfl xk rfl GC.out LEN.out BA.out.size ?_
                intro v5 w5 h5 g5 o5
                have G5 := Lib.hid h5
                have W5 := Lib.hid (WA.out.kept g5 (own_ne fun b e => (NE.out b e).1))
                have N5 := Lib.hid (NA.out.kept g5 (own_ne fun b e => (NE.out b e).2))
                have C5 := Lib.hid (CA.out.grownN GA.out g5)
                have B5 := Lib.hid (U64.below_grownO BA.out g5 (own_ge9 GA.out) BA.out.size)
                have E5 : Hid (∀ b, v5.ownBlock = some b → (Value.slice (some ⟨wb, 0, none⟩) WL2.length wq).ownBlock ≠ some b ∧ (Value.slice nA NL.length nc).ownBlock ≠ some b) := Lib.hid fun b hb1 => by
                  rcases o5 with h | h
                  · exact NE.out b (h.symm.trans hb1)
                  · rw [hb1] at h
                    injection h with h
                    exact ⟨fun e => by have := WA.out.lt e; omega, fun e => by have := NA.out.lt e; omega⟩
                clear h5 g5 o5 GA WA NA CA BA GK WK NK CK BK NE
                obtain ⟨gA5, gc5, hg5⟩ := row_shape G5.out
                rw [List.length_append, List.length_singleton] at hg5
                subst hg5
                go_wp2_with fail
                go_roundw
                case rel => exact ⟨k + 1, HKL.out, by go_num, by rw [FS.out]; exact G5.out, W5.out, N5.out, C5.out, B5.out, E5.out⟩
                case measure => simp [intOf]; have := HKL.out; omega
            · obtain rfl : k = WL2.length := by omega
              rw [List.take_length] at hg
              obtain ⟨GG, hGG⟩ : ∃ GG, GG = G ++ WL2.filter (notIn NL) := ⟨_, rfl⟩
              rw [← hGG] at hg
              have T7 : Hid (GonB L2 GG) := Lib.hid (by rw [hGG]; exact T5.out)
              have T8 : Hid (GG.length ≤ (i + 1) * 64) := Lib.hid (by
                rw [hGG, List.length_append]
                have h1 := List.length_filter_le (notIn NL) WL2
                have := FEW.out; have := HGL.out; omega)
              have LGG : Hid (GG.length ≤ 100000) := Lib.hid (by have := T8.out; have := HN.out; have := HLT.out; omega)
              have GF := Lib.hid hg
              have hg3 := hg2
              rw [List.take_length, ← hGG] at hg3
              rw [hg3] at GF
              subst hg3
              clear hk hg hwk hnk hck hbk hne hkl hg2 hGG GK NE
              go_wp2_with fail
              generalize wr = wp at *
              go_loopw [9] (fun z wr => ∃ j : Nat, j ≤ NL.length ∧ z = .int .i64 (j : Int) ∧ wp = wr) (fun z _ => NL.length - (intOf z).toNat)
              case atStart => exact ⟨0, Nat.zero_le _, rfl, rfl⟩
              case round =>
                obtain ⟨j, hj, rfl, rfl⟩ := hrel
                by_cases hjl : j < NL.length
                · obtain ⟨_, _, hs1, hcel⟩ := NK.out.form
                  injection hs1 with hs1 _ hs2
                  subst hs1 hs2
                  obtain ⟨nb, hnb, hxj⟩ := hcel j hjl
                  subst hnb
                  have KI := Lib.hid (in25_any (x := NL[j]) GF.out LGG.out)
                  rw [T7.out.not (T6.out _ (List.getElem_mem hjl))] at KI
                  have HJL := Lib.hid hjl
                  have hjli : (j : Int) < (NL.length : Int) := by omega
                  generalize NL[j] = xj at *
                  clear hj hjl hcel
                  go_wp2_with fail
                  refine KI.out.mono ?_
                  rintro e wz ⟨rfl, rfl⟩
                  clear KI
                  go_wp2_with fail
                  go_roundw
                  case rel => exact ⟨j + 1, HJL.out, by go_num, by first | rfl | trivial⟩
                  case measure => simp [intOf]; have := HJL.out; omega
                · obtain rfl : j = NL.length := by omega
                  clear hj hjl
                  go_wp2_with fail
                  go_roundw
                  case rel => exact ⟨i + 1, mo9, L2, GG, HLT.out, by go_num, CK.out, T2.out, GF.out, T7.out, by have := T3.out; have := HLL.out; omega, T8.out, BK.out⟩
                  case measure => simp [intOf]; have := HLT.out; omega
      · obtain rfl : i = n := by omega
        have RA := Lib.hid hca.right
        have FEW := Lib.hid hca.few
        have LM : Hid (L.length < 1000000) := Lib.hid (by have := HN.out; omega)
        clear hi hca hrr hgn hgb hll hgl hlt HGN HGB HLL HGL hb
        go_wp2_with fail
        refine KA.out.mono ?_
        rintro e w2 ⟨av, rfl, hav, hb⟩
        have B2 := Lib.hid (below_tr HB.out hb HB.out.size)
        have C2 := Lib.hid (HC.out.ab hb)
        have NA := Lib.hid hav
        have AM : Hid (∀ y ∈ aliveH L, (∃ z, atH L y = some z) ∧ u64Ok y) := Lib.hid fun y hy => by
          obtain ⟨z, hz⟩ := Option.isSome_iff_exists.1 (aliveH_mem.1 hy)
          have := (atH_le hz).2
          exact ⟨⟨z, hz⟩, by have := LM.out; unfold u64Ok; omega⟩
        obtain ⟨AL, hAL⟩ : ∃ X, X = aliveH L := ⟨_, rfl⟩
        rw [← hAL] at NA FEW AM
        obtain ⟨aA, ac, hae⟩ := row_shape NA.out
        subst hae
        clear hav hb KA HC HB hAL
        have hal : (AL.length : Int) ≤ 64 := by have := FEW.out; omega
        go_wp2_with fail
        generalize wr = wold at *
        go_loopw [11] (fun z wr => ∃ p : Nat, p ≤ AL.length ∧ z = .int .i64 (p : Int) ∧ Below w2.heap.size w2 wr) (fun z _ => AL.length - (intOf z).toNat)
        case atStart => exact ⟨0, Nat.zero_le _, rfl, Below.refl _ _⟩
        case round =>
          obtain ⟨p, hp, rfl, hb⟩ := hrel
          have BP := Lib.hid hb
          by_cases hpl : p < AL.length
          · obtain ⟨ab, hab, hxp⟩ := nsb_cell NA.out hpl
            subst hab
            obtain ⟨⟨zp, hzp⟩, hup⟩ := AM.out _ (List.getElem_mem hpl)
            have KR := Lib.hid fun W (hW : Below w2.heap.size w2 W) => rightsA_any (AL[p]) (C2.out.ab hW) hup
            unfold rightsH at KR
            rw [hzp] at KR
            try simp only at KR
            have CP := Lib.hid hxp
            have ZP := Lib.hid hzp
            have UP := Lib.hid hup
            have HPL := Lib.hid hpl
            have hpli : (p : Int) < (AL.length : Int) := by omega
            have y0 := hxp wr hb
            generalize AL[p] = ap at *
            clear hp hb hxp hzp hup hpl
            go_wp2_with fail
            refine (KR.out _ BP.out).mono ?_
            rintro e wx ⟨rfl, hb⟩
            have BX := Lib.hid (below_tr BP.out hb BP.out.size)
            clear hb KR y0 BP
            go_wp2_with fail
            generalize wr = wo1 at *
            go_loopw [14] (fun z wr => ∃ k : Nat, k ≤ AL.length ∧ z = .int .i64 (k : Int) ∧ Below w2.heap.size w2 wr) (fun z _ => AL.length - (intOf z).toNat)
            case atStart => exact ⟨0, Nat.zero_le _, rfl, BX.out⟩
            case round =>
              obtain ⟨k, hk, rfl, hb⟩ := hrel
              have BK := Lib.hid hb
              by_cases hkl : k < AL.length
              · obtain ⟨ab2, hab2, hxk⟩ := nsb_cell NA.out hkl
                injection hab2 with hab2
                injection hab2 with hab2
                subst hab2
                obtain ⟨⟨zk, hzk⟩, huk⟩ := AM.out _ (List.getElem_mem hkl)
                have KR := Lib.hid fun W (hW : Below w2.heap.size w2 W) => rightsA_any (AL[k]) (C2.out.ab hW) huk
                unfold rightsH at KR
                rw [hzk] at KR
                try simp only at KR
                have CK := Lib.hid hxk
                have ZK := Lib.hid hzk
                have UK := Lib.hid huk
                have HKL := Lib.hid hkl
                have hkli : (k : Int) < (AL.length : Int) := by omega
                have y0 := hxk wr hb
                generalize AL[k] = ak at *
                clear hk hb hxk hzk huk hkl
                go_wp2_with fail
                refine (KR.out _ BK.out).mono ?_
                rintro e wy ⟨rfl, hb⟩
                have BY := Lib.hid (below_tr BK.out hb BK.out.size)
                clear hb KR y0 BK
                have HQ : Hid (∀ w', AbW wy.drew w' → Below w2.heap.size w2 w') := Lib.hid fun w' hw' => below_tr BY.out (show Below wy.heap.size wy w' from ⟨hw'.os, hw'.tape, hw'.output, hw'.size, hw'.block⟩) BY.out.size
                have Q1 := Lib.hid fun w' (hw' : AbW wy.drew w') => (belowA_any (h := ap) (v := ak) (C2.out.ab (HQ.out w' hw')) UP.out UK.out LM.out).mono fun e w'' h => And.intro h.1 (show AbW wy.drew w'' from below_tr hw' h.2 hw'.size)
                have Q2 := Lib.hid fun w' (hw' : AbW wy.drew w') => (belowA_any (h := ak) (v := ap) (C2.out.ab (HQ.out w' hw')) UK.out UP.out LM.out).mono fun e w'' h => And.intro h.1 (show AbW wy.drew w'' from below_tr hw' h.2 hw'.size)
                have Q3 := Lib.hid fun w' (hw' : AbW wy.drew w') => (belowA_any (h := ap) (v := ap) (C2.out.ab (HQ.out w' hw')) UP.out UP.out LM.out).mono fun e w'' h => And.intro h.1 (show AbW wy.drew w'' from below_tr hw' h.2 hw'.size)
                rw [below_self RA.out] at Q3
                have d1 : (bits .andNot .u8 (zk.r : Int) (zp.r : Int) != 0) = overR zk.r zp.r := rfl
                cases hbb : belowH L ap ak
                · rw [hbb] at Q1
                  clear hbb d1 Q2
                  go_upto_region 38 with (fail)
                  refine wp_quiet_tail 43 (AbW wy.drew) (AbW.refl _) (by kernel_rfl) (by kernel_rfl) ?_
                  simp only [List.take_succ_cons, List.take_zero, List.drop_succ_cons, List.drop_zero]
                  refine quiet_value (v := ?qv0a) (by rfl) ?qh0a ?qk0a
                  case qh0a => (intro w' hw'; have y1 := CP.out w' (HQ.out w' hw'); have y2 := CK.out w' (HQ.out w' hw'); go_simp; rfl)
                  simp only [Act.put, List.setIfInBounds_toArray, List.set_cons_zero, List.set_cons_succ]
                  refine quiet_value (v := ?qv1a) (by rfl) ?qh1a ?qk1a
                  case qh1a => (intro w' hw'; have y1 := CP.out w' (HQ.out w' hw'); have y2 := CK.out w' (HQ.out w' hw'); go_simp; rfl)
                  simp only [Act.put, List.setIfInBounds_toArray, List.set_cons_zero, List.set_cons_succ]
                  refine quiet_value (v := ?qv2a) (by rfl) ?qh2a ?qk2a
                  case qh2a => (intro w' hw'; have y1 := CP.out w' (HQ.out w' hw'); have y2 := CK.out w' (HQ.out w' hw'); go_simp; rfl)
                  simp only [Act.put, List.setIfInBounds_toArray, List.set_cons_zero, List.set_cons_succ]
                  refine quiet_value (v := ?qv3a) (by rfl) ?qh3a ?qk3a
                  case qh3a => (intro w' hw'; have y1 := CP.out w' (HQ.out w' hw'); have y2 := CK.out w' (HQ.out w' hw'); go_simp; rfl)
                  simp only [Act.put, List.setIfInBounds_toArray, List.set_cons_zero, List.set_cons_succ]
                  refine quiet_value (v := ?qv4a) (by rfl) ?qh4a ?qk4a
                  case qh4a => (intro w' hw'; have y1 := CP.out w' (HQ.out w' hw'); have y2 := CK.out w' (HQ.out w' hw'); go_simp; rfl)
                  simp only [Act.put, List.setIfInBounds_toArray, List.set_cons_zero, List.set_cons_succ]
                  refine quiet_value (v := ?qv5a) (by rfl) ?qh5a ?qk5a
                  case qh5a => (intro w' hw'; have y1 := CP.out w' (HQ.out w' hw'); have y2 := CK.out w' (HQ.out w' hw'); go_simp; rfl)
                  simp only [Act.put, List.setIfInBounds_toArray, List.set_cons_zero, List.set_cons_succ]
                  refine quiet_value (v := ?qv6a) (by rfl) ?qh6a ?qk6a
                  case qh6a => (intro w' hw'; have y1 := CP.out w' (HQ.out w' hw'); have y2 := CK.out w' (HQ.out w' hw'); go_simp; rfl)
                  simp only [Act.put, List.setIfInBounds_toArray, List.set_cons_zero, List.set_cons_succ]
                  refine quiet_value (v := ?qv7a) (by rfl) ?qh7a ?qk7a
                  case qh7a => (intro w' hw'; have y1 := CP.out w' (HQ.out w' hw'); have y2 := CK.out w' (HQ.out w' hw'); go_simp; rfl)
                  simp only [Act.put, List.setIfInBounds_toArray, List.set_cons_zero, List.set_cons_succ]
                  refine quiet_value (v := ?qv8a) (by rfl) ?qh8a ?qk8a
                  case qh8a => (intro w' hw'; have y1 := CP.out w' (HQ.out w' hw'); have y2 := CK.out w' (HQ.out w' hw'); go_simp; rfl)
                  simp only [Act.put, List.setIfInBounds_toArray, List.set_cons_zero, List.set_cons_succ]
                  refine quiet_value (v := ?qv9a) (by rfl) ?qh9a ?qk9a
                  case qh9a => (intro w' hw'; have y1 := CP.out w' (HQ.out w' hw'); have y2 := CK.out w' (HQ.out w' hw'); go_simp; rfl)
                  simp only [Act.put, List.setIfInBounds_toArray, List.set_cons_zero, List.set_cons_succ]
                  refine quiet_value (v := ?qv10a) (by rfl) ?qh10a ?qk10a
                  case qh10a => (intro w' hw'; have y1 := CP.out w' (HQ.out w' hw'); have y2 := CK.out w' (HQ.out w' hw'); go_simp; rfl)
                  simp only [Act.put, List.setIfInBounds_toArray, List.set_cons_zero, List.set_cons_succ]
                  refine quiet_value (v := ?qv11a) (by rfl) ?qh11a ?qk11a
                  case qh11a => (intro w' hw'; have y1 := CP.out w' (HQ.out w' hw'); have y2 := CK.out w' (HQ.out w' hw'); go_simp; rfl)
                  simp only [Act.put, List.setIfInBounds_toArray, List.set_cons_zero, List.set_cons_succ]
                  refine quiet_call (f := 13) (args := #[.pointer (some ⟨w.heap.size, 0, none⟩), .int .u64 (ap : Int), .int .u64 (ak : Int)]) (v := .bool false) (by rfl) (fun w' => by go_simp) (fun w' hw' => Q1.out w' hw') ?_
                  simp only [Act.put, List.setIfInBounds_toArray, List.set_cons_zero, List.set_cons_succ]
                  refine quiet_value (v := ?qv13a) (by rfl) ?qh13a ?qk13a
                  case qh13a => (intro w' hw'; have y1 := CP.out w' (HQ.out w' hw'); have y2 := CK.out w' (HQ.out w' hw'); go_simp; rfl)
                  simp only [Act.put, List.setIfInBounds_toArray, List.set_cons_zero, List.set_cons_succ]
                  with_reducible refine quiet_skip ?qs14a ?qt14a
                  case qs14a => rfl
                  simp only [Act.put, List.setIfInBounds_toArray, List.set_cons_zero, List.set_cons_succ]
                  with_reducible refine quiet_skip ?qs15a ?qt15a
                  case qs15a => rfl
                  simp only [Act.put, List.setIfInBounds_toArray, List.set_cons_zero, List.set_cons_succ]
                  with_reducible refine quiet_skip ?qs16a ?qt16a
                  case qs16a => rfl
                  simp only [Act.put, List.setIfInBounds_toArray, List.set_cons_zero, List.set_cons_succ]
                  with_reducible refine quiet_skip ?qs17a ?qt17a
                  case qs17a => rfl
                  simp only [Act.put, List.setIfInBounds_toArray, List.set_cons_zero, List.set_cons_succ]
                  with_reducible refine quiet_skip ?qs18a ?qt18a
                  case qs18a => rfl
                  simp only [Act.put, List.setIfInBounds_toArray, List.set_cons_zero, List.set_cons_succ]
                  with_reducible refine quiet_skip ?qs19a ?qt19a
                  case qs19a => rfl
                  simp only [Act.put, List.setIfInBounds_toArray, List.set_cons_zero, List.set_cons_succ]
                  with_reducible refine quiet_skip ?qs20a ?qt20a
                  case qs20a => rfl
                  simp only [Act.put, List.setIfInBounds_toArray, List.set_cons_zero, List.set_cons_succ]
                  with_reducible refine quiet_skip ?qs21a ?qt21a
                  case qs21a => rfl
                  simp only [Act.put, List.setIfInBounds_toArray, List.set_cons_zero, List.set_cons_succ]
                  with_reducible refine quiet_skip ?qs22a ?qt22a
                  case qs22a => rfl
                  simp only [Act.put, List.setIfInBounds_toArray, List.set_cons_zero, List.set_cons_succ]
                  with_reducible refine quiet_skip ?qs23a ?qt23a
                  case qs23a => rfl
                  simp only [Act.put, List.setIfInBounds_toArray, List.set_cons_zero, List.set_cons_succ]
                  with_reducible refine quiet_skip ?qs24a ?qt24a
                  case qs24a => rfl
                  simp only [Act.put, List.setIfInBounds_toArray, List.set_cons_zero, List.set_cons_succ]
                  with_reducible refine quiet_skip ?qs25a ?qt25a
                  case qs25a => rfl
                  simp only [Act.put, List.setIfInBounds_toArray, List.set_cons_zero, List.set_cons_succ]
                  with_reducible refine quiet_skip ?qs26a ?qt26a
                  case qs26a => rfl
                  simp only [Act.put, List.setIfInBounds_toArray, List.set_cons_zero, List.set_cons_succ]
                  with_reducible refine quiet_skip ?qs27a ?qt27a
                  case qs27a => rfl
                  simp only [Act.put, List.setIfInBounds_toArray, List.set_cons_zero, List.set_cons_succ]
                  with_reducible refine quiet_skip ?qs28a ?qt28a
                  case qs28a => rfl
                  simp only [Act.put, List.setIfInBounds_toArray, List.set_cons_zero, List.set_cons_succ]
                  with_reducible refine quiet_skip ?qs29a ?qt29a
                  case qs29a => rfl
                  simp only [Act.put, List.setIfInBounds_toArray, List.set_cons_zero, List.set_cons_succ]
                  refine quiet_value (v := ?qv30a) (by rfl) ?qh30a ?qk30a
                  case qh30a => (intro w' hw'; have y1 := CP.out w' (HQ.out w' hw'); have y2 := CK.out w' (HQ.out w' hw'); go_simp; rfl)
                  simp only [Act.put, List.setIfInBounds_toArray, List.set_cons_zero, List.set_cons_succ]
                  refine quiet_value (v := ?qv31a) (by rfl) ?qh31a ?qk31a
                  case qh31a => (intro w' hw'; have y1 := CP.out w' (HQ.out w' hw'); have y2 := CK.out w' (HQ.out w' hw'); go_simp; rfl)
                  simp only [Act.put, List.setIfInBounds_toArray, List.set_cons_zero, List.set_cons_succ]
                  refine quiet_value (v := ?qv32a) (by rfl) ?qh32a ?qk32a
                  case qh32a => (intro w' hw'; have y1 := CP.out w' (HQ.out w' hw'); have y2 := CK.out w' (HQ.out w' hw'); go_simp; rfl)
                  simp only [Act.put, List.setIfInBounds_toArray, List.set_cons_zero, List.set_cons_succ]
                  refine quiet_value (v := ?qv33a) (by rfl) ?qh33a ?qk33a
                  case qh33a => (intro w' hw'; have y1 := CP.out w' (HQ.out w' hw'); have y2 := CK.out w' (HQ.out w' hw'); go_simp; rfl)
                  simp only [Act.put, List.setIfInBounds_toArray, List.set_cons_zero, List.set_cons_succ]
                  refine quiet_value (v := ?qv34a) (by rfl) ?qh34a ?qk34a
                  case qh34a => (intro w' hw'; have y1 := CP.out w' (HQ.out w' hw'); have y2 := CK.out w' (HQ.out w' hw'); go_simp; rfl)
                  simp only [Act.put, List.setIfInBounds_toArray, List.set_cons_zero, List.set_cons_succ]
                  refine quiet_value (v := ?qv35a) (by rfl) ?qh35a ?qk35a
                  case qh35a => (intro w' hw'; have y1 := CP.out w' (HQ.out w' hw'); have y2 := CK.out w' (HQ.out w' hw'); go_simp; rfl)
                  simp only [Act.put, List.setIfInBounds_toArray, List.set_cons_zero, List.set_cons_succ]
                  refine quiet_value (v := ?qv36a) (by rfl) ?qh36a ?qk36a
                  case qh36a => (intro w' hw'; have y1 := CP.out w' (HQ.out w' hw'); have y2 := CK.out w' (HQ.out w' hw'); go_simp; rfl)
                  simp only [Act.put, List.setIfInBounds_toArray, List.set_cons_zero, List.set_cons_succ]
                  refine quiet_value (v := ?qv37a) (by rfl) ?qh37a ?qk37a
                  case qh37a => (intro w' hw'; have y1 := CP.out w' (HQ.out w' hw'); have y2 := CK.out w' (HQ.out w' hw'); go_simp; rfl)
                  simp only [Act.put, List.setIfInBounds_toArray, List.set_cons_zero, List.set_cons_succ]
                  refine quiet_value (v := ?qv38a) (by rfl) ?qh38a ?qk38a
                  case qh38a => (intro w' hw'; have y1 := CP.out w' (HQ.out w' hw'); have y2 := CK.out w' (HQ.out w' hw'); go_simp; rfl)
                  simp only [Act.put, List.setIfInBounds_toArray, List.set_cons_zero, List.set_cons_succ]
                  refine quiet_value (v := ?qv39a) (by rfl) ?qh39a ?qk39a
                  case qh39a => (intro w' hw'; have y1 := CP.out w' (HQ.out w' hw'); have y2 := CK.out w' (HQ.out w' hw'); go_simp; rfl)
                  simp only [Act.put, List.setIfInBounds_toArray, List.set_cons_zero, List.set_cons_succ]
                  refine quiet_value (v := ?qv40a) (by rfl) ?qh40a ?qk40a
                  case qh40a => (intro w' hw'; have y1 := CP.out w' (HQ.out w' hw'); have y2 := CK.out w' (HQ.out w' hw'); go_simp; rfl)
                  simp only [Act.put, List.setIfInBounds_toArray, List.set_cons_zero, List.set_cons_succ]
                  refine quiet_value (v := ?qv41a) (by rfl) ?qh41a ?qk41a
                  case qh41a => (intro w' hw'; have y1 := CP.out w' (HQ.out w' hw'); have y2 := CK.out w' (HQ.out w' hw'); go_simp; rfl)
                  simp only [Act.put, List.setIfInBounds_toArray, List.set_cons_zero, List.set_cons_succ]
                  refine quiet_call (f := 13) (args := #[.pointer (some ⟨w.heap.size, 0, none⟩), .int .u64 (ap : Int), .int .u64 (ap : Int)]) (v := .bool false) (by rfl) (fun w' => by go_simp) (fun w' hw' => Q3.out w' hw') ?_
                  simp only [Act.put, List.setIfInBounds_toArray, List.set_cons_zero, List.set_cons_succ]
                  refine wpQuiet_nil ?_
                  intro w5 h5
                  have B5 := Lib.hid (HQ.out w5 h5)
                  clear h5
                  go_wp2_with fail
                  go_roundw
                  case rel => exact ⟨k + 1, HKL.out, by go_num, B5.out⟩
                  case measure => simp [intOf]; have := HKL.out; omega
                · rw [hbb] at Q1
                  rw [below_anti RA.out hbb] at Q2
                  rw [below_over RA.out HRR.out ZK.out ZP.out hbb] at d1
                  clear hbb
                  go_upto_region 38 with (fail)
                  refine wp_quiet_tail 43 (AbW wy.drew) (AbW.refl _) (by kernel_rfl) (by kernel_rfl) ?_
                  simp only [List.take_succ_cons, List.take_zero, List.drop_succ_cons, List.drop_zero]
                  refine quiet_value (v := ?qv0b) (by rfl) ?qh0b ?qk0b
                  case qh0b => (intro w' hw'; have y1 := CP.out w' (HQ.out w' hw'); have y2 := CK.out w' (HQ.out w' hw'); go_simp; rfl)
                  simp only [Act.put, List.setIfInBounds_toArray, List.set_cons_zero, List.set_cons_succ]
                  refine quiet_value (v := ?qv1b) (by rfl) ?qh1b ?qk1b
                  case qh1b => (intro w' hw'; have y1 := CP.out w' (HQ.out w' hw'); have y2 := CK.out w' (HQ.out w' hw'); go_simp; rfl)
                  simp only [Act.put, List.setIfInBounds_toArray, List.set_cons_zero, List.set_cons_succ]
                  refine quiet_value (v := ?qv2b) (by rfl) ?qh2b ?qk2b
                  case qh2b => (intro w' hw'; have y1 := CP.out w' (HQ.out w' hw'); have y2 := CK.out w' (HQ.out w' hw'); go_simp; rfl)
                  simp only [Act.put, List.setIfInBounds_toArray, List.set_cons_zero, List.set_cons_succ]
                  refine quiet_value (v := ?qv3b) (by rfl) ?qh3b ?qk3b
                  case qh3b => (intro w' hw'; have y1 := CP.out w' (HQ.out w' hw'); have y2 := CK.out w' (HQ.out w' hw'); go_simp; rfl)
                  simp only [Act.put, List.setIfInBounds_toArray, List.set_cons_zero, List.set_cons_succ]
                  refine quiet_value (v := ?qv4b) (by rfl) ?qh4b ?qk4b
                  case qh4b => (intro w' hw'; have y1 := CP.out w' (HQ.out w' hw'); have y2 := CK.out w' (HQ.out w' hw'); go_simp; rfl)
                  simp only [Act.put, List.setIfInBounds_toArray, List.set_cons_zero, List.set_cons_succ]
                  refine quiet_value (v := ?qv5b) (by rfl) ?qh5b ?qk5b
                  case qh5b => (intro w' hw'; have y1 := CP.out w' (HQ.out w' hw'); have y2 := CK.out w' (HQ.out w' hw'); go_simp; rfl)
                  simp only [Act.put, List.setIfInBounds_toArray, List.set_cons_zero, List.set_cons_succ]
                  refine quiet_value (v := ?qv6b) (by rfl) ?qh6b ?qk6b
                  case qh6b => (intro w' hw'; have y1 := CP.out w' (HQ.out w' hw'); have y2 := CK.out w' (HQ.out w' hw'); go_simp; rfl)
                  simp only [Act.put, List.setIfInBounds_toArray, List.set_cons_zero, List.set_cons_succ]
                  refine quiet_value (v := ?qv7b) (by rfl) ?qh7b ?qk7b
                  case qh7b => (intro w' hw'; have y1 := CP.out w' (HQ.out w' hw'); have y2 := CK.out w' (HQ.out w' hw'); go_simp; rfl)
                  simp only [Act.put, List.setIfInBounds_toArray, List.set_cons_zero, List.set_cons_succ]
                  refine quiet_value (v := ?qv8b) (by rfl) ?qh8b ?qk8b
                  case qh8b => (intro w' hw'; have y1 := CP.out w' (HQ.out w' hw'); have y2 := CK.out w' (HQ.out w' hw'); go_simp; rfl)
                  simp only [Act.put, List.setIfInBounds_toArray, List.set_cons_zero, List.set_cons_succ]
                  refine quiet_value (v := ?qv9b) (by rfl) ?qh9b ?qk9b
                  case qh9b => (intro w' hw'; have y1 := CP.out w' (HQ.out w' hw'); have y2 := CK.out w' (HQ.out w' hw'); go_simp; rfl)
                  simp only [Act.put, List.setIfInBounds_toArray, List.set_cons_zero, List.set_cons_succ]
                  refine quiet_value (v := ?qv10b) (by rfl) ?qh10b ?qk10b
                  case qh10b => (intro w' hw'; have y1 := CP.out w' (HQ.out w' hw'); have y2 := CK.out w' (HQ.out w' hw'); go_simp; rfl)
                  simp only [Act.put, List.setIfInBounds_toArray, List.set_cons_zero, List.set_cons_succ]
                  refine quiet_value (v := ?qv11b) (by rfl) ?qh11b ?qk11b
                  case qh11b => (intro w' hw'; have y1 := CP.out w' (HQ.out w' hw'); have y2 := CK.out w' (HQ.out w' hw'); go_simp; rfl)
                  simp only [Act.put, List.setIfInBounds_toArray, List.set_cons_zero, List.set_cons_succ]
                  refine quiet_call (f := 13) (args := #[.pointer (some ⟨w.heap.size, 0, none⟩), .int .u64 (ap : Int), .int .u64 (ak : Int)]) (v := .bool true) (by rfl) (fun w' => by go_simp) (fun w' hw' => Q1.out w' hw') ?_
                  simp only [Act.put, List.setIfInBounds_toArray, List.set_cons_zero, List.set_cons_succ]
                  refine quiet_value (v := ?qv13b) (by rfl) ?qh13b ?qk13b
                  case qh13b => (intro w' hw'; have y1 := CP.out w' (HQ.out w' hw'); have y2 := CK.out w' (HQ.out w' hw'); go_simp; rfl)
                  simp only [Act.put, List.setIfInBounds_toArray, List.set_cons_zero, List.set_cons_succ]
                  refine quiet_value (v := ?qv14b) (by rfl) ?qh14b ?qk14b
                  case qh14b => (intro w' hw'; have y1 := CP.out w' (HQ.out w' hw'); have y2 := CK.out w' (HQ.out w' hw'); go_simp; rfl)
                  simp only [Act.put, List.setIfInBounds_toArray, List.set_cons_zero, List.set_cons_succ]
                  refine quiet_value (v := ?qv15b) (by rfl) ?qh15b ?qk15b
                  case qh15b => (intro w' hw'; have y1 := CP.out w' (HQ.out w' hw'); have y2 := CK.out w' (HQ.out w' hw'); go_simp; rfl)
                  simp only [Act.put, List.setIfInBounds_toArray, List.set_cons_zero, List.set_cons_succ]
                  refine quiet_value (v := ?qv16b) (by rfl) ?qh16b ?qk16b
                  case qh16b => (intro w' hw'; have y1 := CP.out w' (HQ.out w' hw'); have y2 := CK.out w' (HQ.out w' hw'); go_simp; rfl)
                  simp only [Act.put, List.setIfInBounds_toArray, List.set_cons_zero, List.set_cons_succ]
                  refine quiet_value (v := ?qv17b) (by rfl) ?qh17b ?qk17b
                  case qh17b => (intro w' hw'; have y1 := CP.out w' (HQ.out w' hw'); have y2 := CK.out w' (HQ.out w' hw'); go_simp; rfl)
                  simp only [Act.put, List.setIfInBounds_toArray, List.set_cons_zero, List.set_cons_succ]
                  refine quiet_value (v := ?qv18b) (by rfl) ?qh18b ?qk18b
                  case qh18b => (intro w' hw'; have y1 := CP.out w' (HQ.out w' hw'); have y2 := CK.out w' (HQ.out w' hw'); go_simp; rfl)
                  simp only [Act.put, List.setIfInBounds_toArray, List.set_cons_zero, List.set_cons_succ]
                  refine quiet_value (v := ?qv19b) (by rfl) ?qh19b ?qk19b
                  case qh19b => (intro w' hw'; have y1 := CP.out w' (HQ.out w' hw'); have y2 := CK.out w' (HQ.out w' hw'); go_simp; rfl)
                  simp only [Act.put, List.setIfInBounds_toArray, List.set_cons_zero, List.set_cons_succ]
                  refine quiet_value (v := ?qv20b) (by rfl) ?qh20b ?qk20b
                  case qh20b => (intro w' hw'; have y1 := CP.out w' (HQ.out w' hw'); have y2 := CK.out w' (HQ.out w' hw'); go_simp; rfl)
                  simp only [Act.put, List.setIfInBounds_toArray, List.set_cons_zero, List.set_cons_succ]
                  refine quiet_value (v := ?qv21b) (by rfl) ?qh21b ?qk21b
                  case qh21b => (intro w' hw'; have y1 := CP.out w' (HQ.out w' hw'); have y2 := CK.out w' (HQ.out w' hw'); go_simp; rfl)
                  simp only [Act.put, List.setIfInBounds_toArray, List.set_cons_zero, List.set_cons_succ]
                  refine quiet_value (v := ?qv22b) (by rfl) ?qh22b ?qk22b
                  case qh22b => (intro w' hw'; have y1 := CP.out w' (HQ.out w' hw'); have y2 := CK.out w' (HQ.out w' hw'); go_simp; rfl)
                  simp only [Act.put, List.setIfInBounds_toArray, List.set_cons_zero, List.set_cons_succ]
                  refine quiet_value (v := ?qv23b) (by rfl) ?qh23b ?qk23b
                  case qh23b => (intro w' hw'; have y1 := CP.out w' (HQ.out w' hw'); have y2 := CK.out w' (HQ.out w' hw'); go_simp; rfl)
                  simp only [Act.put, List.setIfInBounds_toArray, List.set_cons_zero, List.set_cons_succ]
                  refine quiet_value (v := ?qv24b) (by rfl) ?qh24b ?qk24b
                  case qh24b => (intro w' hw'; have y1 := CP.out w' (HQ.out w' hw'); have y2 := CK.out w' (HQ.out w' hw'); go_simp; rfl)
                  simp only [Act.put, List.setIfInBounds_toArray, List.set_cons_zero, List.set_cons_succ]
                  refine quiet_value (v := ?qv25b) (by rfl) ?qh25b ?qk25b
                  case qh25b => (intro w' hw'; have y1 := CP.out w' (HQ.out w' hw'); have y2 := CK.out w' (HQ.out w' hw'); go_simp; rfl)
                  simp only [Act.put, List.setIfInBounds_toArray, List.set_cons_zero, List.set_cons_succ]
                  refine quiet_value (v := ?qv26b) (by rfl) ?qh26b ?qk26b
                  case qh26b => (intro w' hw'; have y1 := CP.out w' (HQ.out w' hw'); have y2 := CK.out w' (HQ.out w' hw'); go_simp; rfl)
                  simp only [Act.put, List.setIfInBounds_toArray, List.set_cons_zero, List.set_cons_succ]
                  refine quiet_value (v := ?qv27b) (by rfl) ?qh27b ?qk27b
                  case qh27b => (intro w' hw'; have y1 := CP.out w' (HQ.out w' hw'); have y2 := CK.out w' (HQ.out w' hw'); go_simp; rfl)
                  simp only [Act.put, List.setIfInBounds_toArray, List.set_cons_zero, List.set_cons_succ]
                  refine quiet_call (f := 13) (args := #[.pointer (some ⟨w.heap.size, 0, none⟩), .int .u64 (ak : Int), .int .u64 (ap : Int)]) (v := .bool false) (by rfl) (fun w' => by go_simp) (fun w' hw' => Q2.out w' hw') ?_
                  simp only [Act.put, List.setIfInBounds_toArray, List.set_cons_zero, List.set_cons_succ]
                  refine quiet_value (v := ?qv29b) (by rfl) ?qh29b ?qk29b
                  case qh29b => (intro w' hw'; have y1 := CP.out w' (HQ.out w' hw'); have y2 := CK.out w' (HQ.out w' hw'); go_simp; rfl)
                  simp only [Act.put, List.setIfInBounds_toArray, List.set_cons_zero, List.set_cons_succ]
                  refine quiet_value (v := ?qv30b) (by rfl) ?qh30b ?qk30b
                  case qh30b => (intro w' hw'; have y1 := CP.out w' (HQ.out w' hw'); have y2 := CK.out w' (HQ.out w' hw'); go_simp; rfl)
                  simp only [Act.put, List.setIfInBounds_toArray, List.set_cons_zero, List.set_cons_succ]
                  refine quiet_value (v := ?qv31b) (by rfl) ?qh31b ?qk31b
                  case qh31b => (intro w' hw'; have y1 := CP.out w' (HQ.out w' hw'); have y2 := CK.out w' (HQ.out w' hw'); go_simp; rfl)
                  simp only [Act.put, List.setIfInBounds_toArray, List.set_cons_zero, List.set_cons_succ]
                  refine quiet_value (v := ?qv32b) (by rfl) ?qh32b ?qk32b
                  case qh32b => (intro w' hw'; have y1 := CP.out w' (HQ.out w' hw'); have y2 := CK.out w' (HQ.out w' hw'); go_simp; rfl)
                  simp only [Act.put, List.setIfInBounds_toArray, List.set_cons_zero, List.set_cons_succ]
                  refine quiet_value (v := ?qv33b) (by rfl) ?qh33b ?qk33b
                  case qh33b => (intro w' hw'; have y1 := CP.out w' (HQ.out w' hw'); have y2 := CK.out w' (HQ.out w' hw'); go_simp; rfl)
                  simp only [Act.put, List.setIfInBounds_toArray, List.set_cons_zero, List.set_cons_succ]
                  refine quiet_value (v := ?qv34b) (by rfl) ?qh34b ?qk34b
                  case qh34b => (intro w' hw'; have y1 := CP.out w' (HQ.out w' hw'); have y2 := CK.out w' (HQ.out w' hw'); go_simp; rfl)
                  simp only [Act.put, List.setIfInBounds_toArray, List.set_cons_zero, List.set_cons_succ]
                  refine quiet_value (v := ?qv35b) (by rfl) ?qh35b ?qk35b
                  case qh35b => (intro w' hw'; have y1 := CP.out w' (HQ.out w' hw'); have y2 := CK.out w' (HQ.out w' hw'); go_simp; rfl)
                  simp only [Act.put, List.setIfInBounds_toArray, List.set_cons_zero, List.set_cons_succ]
                  refine quiet_value (v := ?qv36b) (by rfl) ?qh36b ?qk36b
                  case qh36b => (intro w' hw'; have y1 := CP.out w' (HQ.out w' hw'); have y2 := CK.out w' (HQ.out w' hw'); go_simp; rfl)
                  simp only [Act.put, List.setIfInBounds_toArray, List.set_cons_zero, List.set_cons_succ]
                  refine quiet_value (v := ?qv37b) (by rfl) ?qh37b ?qk37b
                  case qh37b => (intro w' hw'; have y1 := CP.out w' (HQ.out w' hw'); have y2 := CK.out w' (HQ.out w' hw'); go_simp; rfl)
                  simp only [Act.put, List.setIfInBounds_toArray, List.set_cons_zero, List.set_cons_succ]
                  refine quiet_value (v := ?qv38b) (by rfl) ?qh38b ?qk38b
                  case qh38b => (intro w' hw'; have y1 := CP.out w' (HQ.out w' hw'); have y2 := CK.out w' (HQ.out w' hw'); go_simp; rfl)
                  simp only [Act.put, List.setIfInBounds_toArray, List.set_cons_zero, List.set_cons_succ]
                  refine quiet_value (v := ?qv39b) (by rfl) ?qh39b ?qk39b
                  case qh39b => (intro w' hw'; have y1 := CP.out w' (HQ.out w' hw'); have y2 := CK.out w' (HQ.out w' hw'); go_simp; rfl)
                  simp only [Act.put, List.setIfInBounds_toArray, List.set_cons_zero, List.set_cons_succ]
                  refine quiet_value (v := ?qv40b) (by rfl) ?qh40b ?qk40b
                  case qh40b => (intro w' hw'; have y1 := CP.out w' (HQ.out w' hw'); have y2 := CK.out w' (HQ.out w' hw'); go_simp; rfl)
                  simp only [Act.put, List.setIfInBounds_toArray, List.set_cons_zero, List.set_cons_succ]
                  refine quiet_value (v := ?qv41b) (by rfl) ?qh41b ?qk41b
                  case qh41b => (intro w' hw'; have y1 := CP.out w' (HQ.out w' hw'); have y2 := CK.out w' (HQ.out w' hw'); go_simp; rfl)
                  simp only [Act.put, List.setIfInBounds_toArray, List.set_cons_zero, List.set_cons_succ]
                  refine quiet_call (f := 13) (args := #[.pointer (some ⟨w.heap.size, 0, none⟩), .int .u64 (ap : Int), .int .u64 (ap : Int)]) (v := .bool false) (by rfl) (fun w' => by go_simp) (fun w' hw' => Q3.out w' hw') ?_
                  simp only [Act.put, List.setIfInBounds_toArray, List.set_cons_zero, List.set_cons_succ]
                  refine wpQuiet_nil ?_
                  intro w5 h5
                  have B5 := Lib.hid (HQ.out w5 h5)
                  clear h5
                  go_wp2_with fail
                  go_roundw
                  case rel => exact ⟨k + 1, HKL.out, by go_num, B5.out⟩
                  case measure => simp [intOf]; have := HKL.out; omega
              · obtain rfl : k = AL.length := by omega
                clear hk hb hkl
                go_wp2_with fail
                go_roundw
                case rel => exact ⟨p + 1, HPL.out, by go_num, BK.out⟩
                case measure => simp [intOf]; have := HPL.out; omega
          · obtain rfl : p = AL.length := by omega
            clear hp hb hpl
            go_wp2_with fail
            refine (KN.out _).mono ?_
            rintro e w3 ⟨rfl, hb⟩
            have B3 := Lib.hid (below_tr B2.out (below_tr BP.out hb BP.out.size) B2.out.size)
            clear hb
            go_wp2_with fail
            go_ret
            exact ⟨rfl, B3.out⟩
theorem cfall_walk (v : Value) (w : World) (hk : ∃ base, Value.okWide Try.prog w .any base 22 v) {H : Type} {enc : TypeId × Value → H} {d : DataW H} {p : List MemPlace} (hd : DataW.Trod enc Try.prog w 0 (fun _ => true) true 22 v d p) (hp : ∀ x ∈ p, x.block < w.heap.size) :
    Calls Try.prog 3 #[v] w fun e w' => e = .returned (.bool true) ∧ Below w.heap.size w w' := by
  obtain ⟨base, hk⟩ := hk
  obtain ⟨A, n, c, qs, rfl, hq⟩ := open_ops25 hk hd hp
  exact cfall_any A n c qs w hq
end Go.Proofs.Ytobjdhpdljiijaa
