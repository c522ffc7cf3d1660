/-
  KIT OF OURS: append of noughts, as Go's compiler makes of append(b, make([]byte, n)...), onto bytes of the call's own.
  META PAGES: the payload: walk of Encode.
  META PAGES: the reference's payload: walks of RefBytes and Bytes.
-/
import Derived.Test.YtmeakfocppooiaaGreatCtC
import Derived.Lib.AppendZeros
import Derived.Lib.AppendZerosOnto
import Derived.Test.YtmeakfocppooiaaGreatMtA
namespace Go.Proofs.YtmeakfocppooiaaGreat
open Go.RowKit
set_option linter.unusedVariables false

theorem zeroCells_u8 (k : Nat) : Builtin.zeroCells #[Value.int .u8 0] k = bts (zeros k) := by
  apply Array.ext
  · simp [Builtin.zeroCells, bts, zeros]
  · intro i h1 h2
    simp [Builtin.zeroCells, bts, zeros, Nat.mod_one]
section
variable {P : Program} (w : World)
theorem run_append_zroom (t tn ty e : TypeId) (i : TypeInfo) (z : Value) (ht : P.underlying t = some (.slice e)) (htn : P.underlying tn = some (.int .i64)) (hi : P.info? e = some i) (hz : i.zero = some z) (hsz : i.size = 1) (hby : i.bytes = 1) (hzc : z.cells = #[.int .u8 0])
    (g sLen sCap k : Nat) (cur : Array Value) (hg : w.heap[g]? = some (.cells cur e (0, 0))) (h0 : 0 < k) (hk : k ≤ 140737488355328)
    (hroom : sLen + k ≤ sCap) (hfit : sLen + k ≤ cur.size) :
    (Builtin.append_ #[t, tn] ty #[.slice (some ⟨g, 0, none⟩) sLen sCap, .int .i64 (k : Int)]).run P w =
      .ok (.slice (some ⟨g, 0, none⟩) (sLen + k) sCap) (w.setRow g (cur.toList.take sLen ++ bvals (zeros k) ++ cur.toList.drop (sLen + k)).toArray) := by
  have hst := run_storeCells_at P g sLen e (bvals (zeros k)) 0 cur w hg (by simp [bvals, zeros]; omega) (by simp [bvals, Value.oneCell'])
  have hl : (bvals (zeros k)).length = k := by simp [bvals, zeros]
  simp only [Nat.add_zero, hl] at hst
  have hw : IntKind.i64.wrap (k : Int) = k := IntWalk.i64_in _ (by omega)
  have hneg : ¬ ((k : Int) < 0) := by omega
  have h48 : ¬ (281474976710656 < (k : Int) * ((1 : Nat) : Int)) := by omega
  have hne : k ≠ 0 := by omega
  have hzz : (Builtin.zeroCells #[Value.int .u8 0] k).toList = bvals (zeros k) := by rw [zeroCells_u8, bts_list]; rfl
  simp [Builtin.append_, run_underlying ht, run_underlying htn, sizeOf, typeInfo, zeroValue, hi, hz, asInt, asIntOf, hw, hneg, hne, hsz, hby, hroom, Addr.add_lit, hzc, hzz, hst]
  omega
theorem run_appZ {B : Nat} {t tn ty : TypeId} {i : TypeInfo} {z : Value} (ht : P.underlying t = some (.slice 5)) (htn : P.underlying tn = some (.int .i64)) (hi : P.info? 5 = some i) (hz : i.zero = some z) (hsz : i.size = 1) (hby : i.bytes = 1) (hzc : z.cells = #[.int .u8 0])
    {v : Value} {l : List Nat} (hown : OwB w B v l) (k : Nat) (h0 : 0 < k) (hm : l.length + k ≤ 140737488355328) (hbase : B ≤ w.heap.size) :
    ∃ v' w', (Builtin.append_ #[t, tn] ty #[v, .int .i64 (k : Int)]).run P w = .ok v' w' ∧ OwB w' B v' (l ++ zeros k) ∧ Below B w w' ∧ w.grownBy w' v.ownBlock := by
  have hz0 : Byt (zeros k) := fun x hx => by rw [List.eq_of_mem_replicate hx]; decide
  have ho := hown.own
  have hzl : (zeros k).length = k := zeros_len k
  have hlen : (l ++ zeros k).length = l.length + k := by rw [List.length_append, hzl]
  have hbv : bvals (l ++ zeros k) = bvals l ++ bvals (zeros k) := by simp [bvals]
  have grown : ∀ (old : Nat) (row : Option Nat),
      OwB (w.drew.alloc (.cells ((bvals l).toArray ++ bts (zeros k) ++ bts (zeros (grownCap w (l.length + k) old 5 - (l.length + k)))) 5)) B (.slice (some ⟨w.heap.size, 0, none⟩) (l.length + k) (grownCap w (l.length + k) old 5)) (l ++ zeros k) ∧
      w.grownBy (w.drew.alloc (.cells ((bvals l).toArray ++ bts (zeros k) ++ bts (zeros (grownCap w (l.length + k) old 5 - (l.length + k)))) 5)) row := by
    intro old row
    have hge := grownCap_ge w (l.length + k) old 5
    have hcm : grownCap w (l.length + k) old 5 ≤ maxLen := grownCap_le_maxLen w (l.length + k) old 5 (by simp only [maxLen]; omega)
    refine ⟨OwB.ofBk (l' := l ++ zeros k ++ zeros (grownCap w (l.length + k) old 5 - (l.length + k))) ?_ hbase hlen hge ?_ hcm ?_ (byt_app hown.byt hz0), ⟨rfl, rfl, rfl, by simp, fun j hj _ => heap_alloc_old w.drew _ hj⟩⟩
    · have e : (bvals l).toArray ++ bts (zeros k) ++ bts (zeros (grownCap w (l.length + k) old 5 - (l.length + k))) = bts (l ++ zeros k ++ zeros (grownCap w (l.length + k) old 5 - (l.length + k))) := by
        apply Array.ext'
        simp [bts, bvals]
      rw [e]
      exact Bk.newAt _ _ rfl
    · rw [List.length_append, hlen, zeros_len]
      omega
    · rw [List.take_append_of_le_length (by omega), List.take_of_length_le (by omega)]
  rcases ho.2 with ⟨rfl, hx⟩ | ⟨g, cap, cur, rfl, hbg, hg, hnc, hcm, hcs, htake⟩
  · have hl0 : l = [] := List.eq_nil_of_length_eq_zero hx
    subst hl0
    have hr := Lib.run_append_nil_zeros (P := P) w t tn ty 5 i z .i64 .i64 ht htn hi hz k h0 (by omega) (by simp at hm; omega) (by rw [hby]; simp at hm; omega)
    have hg := grown 0 none
    simp only [List.length_nil, Nat.zero_add, List.nil_append, bvals, List.map_nil, Array.empty_append] at hg
    rw [hzc, zeroCells_u8, zeroCells_u8] at hr
    refine ⟨_, _, hr, hg.1, ⟨hg.2.os, hg.2.tape, hg.2.output, hg.2.size, fun j hj => hg.2.block j (by omega) (by simp)⟩, ⟨hg.2.os, hg.2.tape, hg.2.output, hg.2.size, fun j hj _ => hg.2.block j hj (by simp)⟩⟩
  · by_cases hroom : l.length + k ≤ cap
    · have hr := run_append_zroom (P := P) w t tn ty 5 i z ht htn hi hz hsz hby hzc g l.length cap k cur hg h0 (by omega) hroom (by rw [hcs]; omega)
      refine ⟨_, _, hr, ⟨⟨?_, .inr ⟨g, cap, _, ?_, hbg, setRow_heap w g cur _ 5 _ hg, ?_, hcm, ?_, ?_⟩⟩, byt_app hown.byt hz0⟩, Below.row (Below.refl _ _) hbg _, ⟨rfl, rfl, rfl, by simp, fun j _ hj => setRow_other w g j _ (fun e => hj (by simp [Value.ownBlock, e]))⟩⟩
      · simp [bvals]
      · rw [hlen]
      · rw [hlen]; exact hroom
      · simp only [List.size_toArray, List.length_append, List.length_take, List.length_drop, Array.length_toList, bvals, List.length_map, hzl]
        omega
      · rw [hbv]
        have e1 : (bvals l).length = l.length := by simp [bvals]
        have e2 : (bvals (zeros k)).length = k := by simp [bvals, zeros]
        have e3 : cur.toList.take l.length = bvals l := by
          have := htake
          simpa using this
        rw [e3, List.take_append_of_le_length (by rw [List.length_append, List.length_append, e1, e2, hzl]; omega), List.take_of_length_le (by rw [List.length_append, List.length_append, e1, e2, hzl]; omega)]
    · have hcells := hown.rw
      have hold : (Builtin.firstCells i.size l.length (.slice (some ⟨g, 0, none⟩) l.length cap)).run P w.drew = .ok (bvals l).toArray w.drew := by
        refine run_firstCells_some (P := P) w.drew i.size l.length ⟨g, 0, none⟩ l.length cap (bvals l) (by rw [hsz]; simp [bvals]) fun j u hj => ?_
        have hjl : j < l.length := by
          rcases Nat.lt_or_ge j l.length with h | h
          · exact h
          · rw [List.getElem?_eq_none (by simp [bvals]; omega)] at hj; cases hj
        have h1 := hcells j hjl
        have e1 : (Addr.mk g 0 none).add j = ⟨g, j, none⟩ := by rw [Addr.add_mid, Nat.zero_add]
        rw [e1]
        show w.cell? _ = _
        rw [h1, ← hj]
        simp [bvals, at', List.getElem?_eq_getElem hjl]
      have hr := Lib.run_append_grow_zeros (P := P) w t tn ty 5 i z .i64 .i64 ht htn hi hz (some ⟨g, 0, none⟩) l.length cap (bvals l) hold k h0 (by omega) (by omega) (by omega) (by rw [hby]; omega) (growslice_fits (by omega) (by rw [hby]; omega))
      rw [hzc, zeroCells_u8, zeroCells_u8] at hr
      have hg2 := grown cap none
      refine ⟨_, _, hr, hg2.1, ⟨hg2.2.os, hg2.2.tape, hg2.2.output, hg2.2.size, fun j hj => hg2.2.block j (by omega) (by simp)⟩, ⟨hg2.2.os, hg2.2.tape, hg2.2.output, hg2.2.size, fun j hj _ => hg2.2.block j hj (by simp)⟩⟩
theorem wpList_appZ {ops : Array Oper} {rest : List Oper} {o : Oper} {a : Act} {Q : Exit → Act → World → Prop} (hgd : o.guard = none) (s x : Operand) {t tn : TypeId}
    (ho : o.op = .call { callee := .builtin .append, args := #[s, x], argTypes := #[t, tn] })
    {B : Nat} {i : TypeInfo} {z : Value} (ht : P.underlying t = some (.slice 5)) (htn : P.underlying tn = some (.int .i64)) (hi : P.info? 5 = some i) (hz : i.zero = some z)
    (hsz : i.size = 1) (hby : i.bytes = 1) (hzc : z.cells = #[.int .u8 0])
    {v : Value} {l : List Nat} (hown : OwB w B v l) (hs : a.eval s = v) (k : Nat) (hx : a.eval x = .int .i64 (k : Int)) (h0 : 0 < k)
    (hm : l.length + k ≤ 140737488355328) (hbase : B ≤ w.heap.size)
    (h : ∀ v' w', OwB w' B v' (l ++ zeros k) → Below B w w' → w.grownBy w' v.ownBlock → wpList P ops Q rest (a.put o.dst v') w') : wpList P ops Q (o :: rest) a w := by
  obtain ⟨v', w', hrun, h2, h3, h4⟩ := run_appZ (P := P) w (ty := o.type) ht htn hi hz hsz hby hzc hown k h0 hm hbase
  refine wpList_plain hgd fun K hK => ?_
  unfold Oper.wp execOp
  simp only [ho, resolve, invoke, builtin, Sem.run_bind, Sem.run_pure, Result.andThen_ok, List.map_toArray, List.map_cons, List.map_nil, hs, hx, hrun]
  exact hK _ _ (h v' w' h2 h3 h4)
end
end Go.Proofs.YtmeakfocppooiaaGreat

namespace Go.Proofs.YtmeakfocppooiaaGreat
open Go.RowKit
set_option linter.unusedVariables false

def fldM (m : Mp) : List (Nat × Nat) := [(m.cm, 8), (m.pg, 4), (m.rc, 8), (m.rg, 2), (m.lv, 1), (m.gn, 2), (m.tn, 4)]
def mbytes (m : Mp) : List Nat := flatN (fldM m) ++ zeros 195
theorem fldM_len (m : Mp) : (flatN (fldM m)).length = 29 := by simp [fldM, flatN, digB_len]
theorem mbytes_len (m : Mp) : (mbytes m).length = 224 := by rw [mbytes, List.length_append, fldM_len, zeros_len]
theorem fldM_ok {m : Mp} (h : m.Ok) : NumOk (fldM m) := by
  have h1 := h.cm; have h2 := h.pg; have h3 := h.rc; have h4 := h.rg; have h5 := h.lv; have h6 := h.gn; have h7 := h.tn
  intro p hp
  simp only [fldM, List.mem_cons, List.not_mem_nil, or_false] at hp
  rcases hp with rfl | rfl | rfl | rfl | rfl | rfl | rfl <;> simp only <;> omega
def rowF (ps : List (Nat × Nat)) : Array Value := (ps.flatMap fun p => [Value.int .u64 (p.1 : Int), Value.int .i64 (p.2 : Int)]).toArray
theorem rowF_at : ∀ (ps : List (Nat × Nat)) (j : Nat) (p : Nat × Nat), ps[j]? = some p → (ps.flatMap fun p => [Value.int .u64 (p.1 : Int), Value.int .i64 (p.2 : Int)])[j * 2]? = some (.int .u64 (p.1 : Int)) ∧ (ps.flatMap fun p => [Value.int .u64 (p.1 : Int), Value.int .i64 (p.2 : Int)])[j * 2 + 1]? = some (.int .i64 (p.2 : Int))
  | [], j, p, h => by simp at h
  | q :: ps, 0, p, h => by
    simp only [List.getElem?_cons_zero, Option.some.injEq] at h
    subst h
    exact ⟨rfl, rfl⟩
  | q :: ps, j + 1, p, h => by
    have := rowF_at ps j p (by simpa using h)
    rw [show (j + 1) * 2 = j * 2 + 1 + 1 by omega]
    exact this
def FldB (w : World) (g : Nat) (ps : List (Nat × Nat)) : Prop := w.heap[g]? = some (.cells (rowF ps) 201 (0, 0))
theorem FldB.lt {w : World} {g : Nat} {ps : List (Nat × Nat)} (h : FldB w g ps) : g < w.heap.size := lt_of_block h
theorem FldB.low {w w' : World} {g C : Nat} {ps : List (Nat × Nat)} (h : FldB w g ps) (hb : Below C w w') (hC : g < C) : FldB w' g ps := (hb.block g hC).trans h
theorem FldB.at {w : World} {g : Nat} {ps : List (Nat × Nat)} (h : FldB w g ps) {j : Nat} {p : Nat × Nat} (hj : ps[j]? = some p) : w.cell? ⟨g, j * 2, none⟩ = some (.int .u64 (p.1 : Int)) ∧ w.cell? ⟨g, j * 2 + 1, none⟩ = some (.int .i64 (p.2 : Int)) := by
  have := rowF_at ps j p hj
  rw [cell_of_row w g _ _ _ (0, 0) h, cell_of_row w g _ _ _ (0, 0) h]
  simpa [rowF] using this
def encP (m : Mp) : List Nat × Nat := bif rightB m then (mbytes m, 0) else ([], 2)
set_option maxRecDepth 100000 in
set_option maxHeartbeats 4000000 in
theorem encode_any (m : Mp) (w : World) (hm : m.Ok) :
    Calls Tryz.prog 52 #[.agg (mpv m)] w (OutB w (encP m).1 (encP m).2) := by
  obtain ⟨i0, hi0, hz0, hz1, hz2⟩ := info_parts infoU8
  have hz3 : (Value.int .u8 0).cells = #[.int .u8 0] := rfl
  have HM := Lib.hid fun W => right_any m W
  have HO := Lib.hid (fldM_ok hm)
  have HL := Lib.hid (fldM_len m)
  unfold encP rightE at *
  cases hr : rightB m
  · simp only [cond_false]
    rw [hr] at HM
    obtain ⟨cm, pg, rc, rg, lv, gn, tn⟩ := m
    simp only [mpv] at HM ⊢
    clear hr hm
    go_enter Tryz.func52, Tryz.ntmps52
    go_wp2_with fail
    refine (HM.out _).mono ?_
    rintro e w1 ⟨rfl, hb⟩
    have B1 : Hid (Below w.heap.size w w1) := Lib.hid (((Below.refl _ _).alloc (Nat.le_refl _) _).trans (hb.mono (by simp)))
    clear hb
    go_wp2_with fail
    go_ret2
    exact OutB.refused 2 B1.out
  · simp only [cond_true]
    rw [hr] at HM
    have M0 := Lib.hid (MpB.new w m)
    have z1 : IntKind.u64.wrap (m.pg : Int) = (m.pg : Int) := wide_u64 m.pg (by have := hm.pg; omega)
    have z2 : IntKind.u64.wrap (m.rg : Int) = (m.rg : Int) := wide_u64 m.rg (by have := hm.rg; omega)
    have z3 : IntKind.u64.wrap (m.lv : Int) = (m.lv : Int) := wide_u64 m.lv (by have := hm.lv; omega)
    have z4 : IntKind.u64.wrap (m.gn : Int) = (m.gn : Int) := wide_u64 m.gn (by have := hm.gn; omega)
    have z5 : IntKind.u64.wrap (m.tn : Int) = (m.tn : Int) := wide_u64 m.tn (by have := hm.tn; omega)
    have HE : Hid (mbytes m = flatN (fldM m) ++ zeros 195) := Lib.hid rfl
    have HF : Hid (rowF (fldM m) = #[.int .u64 (m.cm : Int), .int .i64 8, .int .u64 (m.pg : Int), .int .i64 4, .int .u64 (m.rc : Int), .int .i64 8, .int .u64 (m.rg : Int), .int .i64 2, .int .u64 (m.lv : Int), .int .i64 1, .int .u64 (m.gn : Int), .int .i64 2, .int .u64 (m.tn : Int), .int .i64 4]) := Lib.hid rfl
    have HN : Hid ((fldM m).length = 7) := Lib.hid rfl
    generalize mbytes m = MB at *
    generalize fldM m = ps at *
    obtain ⟨cm, pg, rc, rg, lv, gn, tn⟩ := m
    simp only [mpv] at HM M0 z1 z2 z3 z4 z5 ⊢
    clear hr hm
    go_enter Tryz.func52, Tryz.ntmps52
    go_wp2_with fail
    refine (HM.out _).mono ?_
    rintro e w1 ⟨rfl, hb⟩
    have B1 : Hid (Below w.heap.size w w1) := Lib.hid (((Below.refl _ _).alloc (Nat.le_refl _) _).trans (hb.mono (by simp)))
    obtain ⟨c0, c1, c2, c3, c4, c5, c6⟩ := (M0.out.ab hb).cells
    have hz : w.heap.size < w1.heap.size := by have := hb.size; simp at this; omega
    clear hb
    go_wp2_with fail
    have F0 : Hid (FldB ((w1.alloc (.cells #[.int .u32 (pg : Int), .int .u64 (rc : Int), .int .u16 (rg : Int)] 27)).alloc (.cells #[.int .u64 (cm : Int), .int .i64 8, .int .u64 (pg : Int), .int .i64 4, .int .u64 (rc : Int), .int .i64 8, .int .u64 (rg : Int), .int .i64 2, .int .u64 (lv : Int), .int .i64 1, .int .u64 (gn : Int), .int .i64 2, .int .u64 (tn : Int), .int .i64 4] 201)) (w1.heap.size + 1) ps) := Lib.hid (by
      unfold FldB
      rw [HF.out]
      have := heap_alloc_new (w1.alloc (.cells #[.int .u32 (pg : Int), .int .u64 (rc : Int), .int .u16 (rg : Int)] 27)) (.cells #[.int .u64 (cm : Int), .int .i64 8, .int .u64 (pg : Int), .int .i64 4, .int .u64 (rc : Int), .int .i64 8, .int .u64 (rg : Int), .int .i64 2, .int .u64 (lv : Int), .int .i64 1, .int .u64 (gn : Int), .int .i64 2, .int .u64 (tn : Int), .int .i64 4] 201)
      simpa using this)
    have B2 : Hid (Below w.heap.size w ((w1.alloc (.cells #[.int .u32 (pg : Int), .int .u64 (rc : Int), .int .u16 (rg : Int)] 27)).alloc (.cells #[.int .u64 (cm : Int), .int .i64 8, .int .u64 (pg : Int), .int .i64 4, .int .u64 (rc : Int), .int .i64 8, .int .u64 (rg : Int), .int .i64 2, .int .u64 (lv : Int), .int .i64 1, .int .u64 (gn : Int), .int .i64 2, .int .u64 (tn : Int), .int .i64 4] 201))) := Lib.hid ((B1.out.alloc B1.out.size _).alloc (by have := B1.out.size; simp; omega) _)
    generalize hW2 : ((w1.alloc (.cells #[.int .u32 (pg : Int), .int .u64 (rc : Int), .int .u16 (rg : Int)] 27)).alloc (.cells #[.int .u64 (cm : Int), .int .i64 8, .int .u64 (pg : Int), .int .i64 4, .int .u64 (rc : Int), .int .i64 8, .int .u64 (rg : Int), .int .i64 2, .int .u64 (lv : Int), .int .i64 1, .int .u64 (gn : Int), .int .i64 2, .int .u64 (tn : Int), .int .i64 4] 201)) = w2 at *
    have hz2' : w2.heap.size = w1.heap.size + 2 := by rw [← hW2]; simp
    have HZ2 := Lib.hid hz2'
    clear hW2 hz2' c0 c1 c2 c3 c4 c5 c6 HF M0 HM B1 z1 z2 z3 z4 z5
    go_loopw [6, 8, 9, 10, 48] (fun v _ _ _ j wr => ∃ q : Nat, q ≤ 7 ∧ j = .int .i64 q ∧ OwB wr (w1.heap.size + 2) v (flatN (ps.take q)) ∧ FldB wr (w1.heap.size + 1) ps ∧ Below w.heap.size w wr ∧ w1.heap.size + 2 ≤ wr.heap.size) (fun _ _ _ _ j _ => 7 - (intOf j).toNat)
    case atStart => exact ⟨0, Nat.zero_le _, rfl, OwB.nil _ _, F0.out, B2.out, by rw [HZ2.out]; exact Nat.le_refl _⟩
    case round =>
      obtain ⟨q, hq, rfl, ho, hf, kb, hs⟩ := hrel
      by_cases hlt : q < 7
      · have hqi : (q : Int) < 7 := by omega
        obtain ⟨p, hp⟩ : ∃ p, ps[q]? = some p := ⟨_, List.getElem?_eq_getElem (by rw [HN.out]; exact hlt)⟩
        obtain ⟨p1, p2, p3, p4⟩ := HO.out p (List.mem_of_getElem? hp)
        have hts : ps.take (q + 1) = ps.take q ++ [p] := by rw [List.take_add_one, hp]; rfl
        have hfl := flatN_snoc (ps.take q) p
        rw [← hts] at hfl
        obtain ⟨a0, a1⟩ := hf.at hp
        have hle := flatN_le (ps := ps.take q) (fun r hr => HO.out r (List.mem_of_mem_take hr))
        rw [List.length_take] at hle
        obtain ⟨x, sz⟩ := p
        simp only at p1 p2 p3 p4 a0 a1 hfl
        have HPU := Lib.hid fun W => put_any x sz W p1 p2 p3 p4
        have FF := Lib.hid hf
        have KB := Lib.hid kb
        have OO := Lib.hid ho
        have HFL := Lib.hid hfl
        have HLE := Lib.hid hle
        have HQ := Lib.hid hlt
        have P3 := Lib.hid p3
        have HS := Lib.hid hs
        clear ho hf kb hfl hle hlt hts hp p1 p2 p3 p4 hq hs
        go_wp2_with fail
        refine (HPU.out _).mono ?_
        rintro e w3 ⟨rfl, hk, hb⟩
        have hb2 := ((Below.refl wr.heap.size wr).alloc (Nat.le_refl _) (.cells #[.int .u64 (x : Int), .int .i64 (sz : Int)] 201)).trans (hb.mono (by simp))
        have K3 : Hid (IsB w3 (some ⟨wr.heap.size + 1, 0, none⟩) sz sz (digB x sz)) := Lib.hid (by
          have := isB_whole hk (digB_byt _ _) (digB_len _ _) (by have := P3.out; omega)
          simpa using this)
        have O3 := Lib.hid (OO.out.ab hb2)
        have F3 := Lib.hid (FF.out.low hb2 FF.out.lt)
        have KB3 := Lib.hid (below_tr KB.out hb2 KB.out.size)
        have HS3 : Hid (w1.heap.size + 2 ≤ w3.heap.size) := Lib.hid (Nat.le_trans HS.out hb2.size)
        clear hk hb hb2
        go_wp2_with (refine wpList_appB _ rfl (.tmp 60) (.tmp 61) rfl Tryz.underlying39 hi0 hz0 hz1 hz2 rfl O3.out rfl K3.out rfl (by have := HLE.out; have := HQ.out; have := P3.out; omega) HS3.out ?_
                     intro v6 w6 hv6 hb6 hg6 hat6
                     rw [← HFL.out] at hv6
                     have V6 := Lib.hid hv6
                     have F6 := Lib.hid (F3.out.low hb6 (by omega))
                     have B6 := Lib.hid (KB3.out.trans (hb6.mono (by have := hz; omega)))
                     have S6 := Lib.hid (Nat.le_trans HS3.out hb6.size)
                     clear hv6 hb6 hg6 hat6)
        go_roundw
        case rel => exact ⟨q + 1, HQ.out, by go_num, V6.out, F6.out, B6.out, S6.out⟩
        case measure => simp [intOf]; have := HQ.out; omega
      · obtain rfl : q = 7 := by omega
        rw [List.take_of_length_le (by rw [HN.out]; exact Nat.le_refl _)] at ho
        obtain ⟨A, cap, rfl, _, _⟩ := ho.shape
        have hl29 := HL.out
        rw [hl29] at ho ⊢
        have OO := Lib.hid ho
        have KB := Lib.hid kb
        have HS := Lib.hid hs
        clear ho kb hlt hq hf hs hl29
        go_wp2_with (refine wpList_appZ _ rfl (.tmp 64) (.tmp 67) rfl Tryz.underlying39 Tryz.underlying3 hi0 hz0 hz1 hz2 hz3 OO.out rfl 195 rfl (by decide) (by rw [HL.out]; decide) HS.out ?_
                     intro v6 w6 hv6 hb6 hg6
                     rw [← HE.out] at hv6
                     have V6 := Lib.hid hv6
                     have B6 := Lib.hid (KB.out.trans (hb6.mono (by have := hz; omega)))
                     clear hv6 hb6 hg6)
        go_ret2
        exact ⟨_, rfl, V6.out.lower (by have := hz; omega), B6.out⟩
end Go.Proofs.YtmeakfocppooiaaGreat

namespace Go.Proofs.YtmeakfocppooiaaGreat
open Go.RowKit
set_option linter.unusedVariables false

theorem dig_own {w : World} {B g m n : Nat} (h : Bk w g 5 (digB m n)) (hB : B ≤ g) (hn : n ≤ 8) : OwB w B (.slice (some ⟨g, 0, none⟩) n n) (digB m n) :=
  OwB.ofBk h hB (digB_len _ _) (Nat.le_refl _) (digB_len _ _) (by omega) (List.take_of_length_le (by rw [digB_len]; omega)) (digB_byt _ _)
def refBy (p c g : Nat) : List Nat := digB p 4 ++ digB c 8 ++ digB g 2
theorem refBy_len (p c g : Nat) : (refBy p c g).length = 14 := by simp [refBy, digB_len]
set_option maxRecDepth 100000 in
set_option maxHeartbeats 4000000 in
theorem rrefBytes_any (p c g : Nat) (w : World) (hp : p < 4294967296) (hc : c < 18446744073709551616) (hg : g < 65536) :
    Calls Tryz.prog 101 #[.agg #[.int .u32 (p : Int), .int .u64 (c : Int), .int .u16 (g : Int)]] w fun e w' => ∃ v, e = .returned v ∧ OwB w' w.heap.size v (refBy p c g) ∧ Below w.heap.size w w' := by
  obtain ⟨i0, hi0, hz0, hz1, hz2⟩ := info_parts infoU8
  have z1 : IntKind.u64.wrap (p : Int) = (p : Int) := wide_u64 p (by omega)
  have z2 : IntKind.u64.wrap (g : Int) = (g : Int) := wide_u64 g (by omega)
  have P1 := Lib.hid fun W => of_any p 4 W (by omega) (by decide) (by decide)
  have P2 := Lib.hid fun W => of_any c 8 W hc (by decide) (by decide)
  have P3 := Lib.hid fun W => of_any g 2 W (by omega) (by decide) (by decide)
  have RE : Hid (refBy p c g = digB p 4 ++ digB c 8 ++ digB g 2) := Lib.hid rfl
  have R0 : Hid (CbB (w.alloc (.cells #[.int .u32 (p : Int), .int .u64 (c : Int), .int .u16 (g : Int)] 27)) w.heap.size 27 #[.int .u32 (p : Int), .int .u64 (c : Int), .int .u16 (g : Int)]) := Lib.hid (CbB.new _ _ _)
  have B0 : Hid (Below w.heap.size w (w.alloc (.cells #[.int .u32 (p : Int), .int .u64 (c : Int), .int .u16 (g : Int)] 27))) := Lib.hid ((Below.refl _ _).alloc (Nat.le_refl _) _)
  generalize refBy p c g = RB at *
  clear hp hc hg
  go_enter Tryz.func101, Tryz.ntmps101
  go_wp2_with fail
  refine (P1.out _).mono ?_
  rintro e w1 ⟨rfl, hk, hb⟩
  have O1 : Hid (OwB w1 w.heap.size (.slice (some ⟨w.heap.size + 1, 0, none⟩) 4 4) (digB p 4)) := Lib.hid (by
    have := dig_own (B := w.heap.size) hk (by simp) (by decide)
    simpa using this)
  have R1 := Lib.hid (R0.out.ab hb)
  have B1 := Lib.hid (below_tr B0.out hb B0.out.size)
  have c1 := R1.out.cell (k := 1) rfl
  have c2 := R1.out.cell (k := 2) rfl
  rw [show (w.alloc (.cells #[.int .u32 (p : Int), .int .u64 (c : Int), .int .u16 (g : Int)] 27)).heap.size = w.heap.size + 1 by simp]
  clear hk hb R0 B0
  go_wp2_with fail
  refine (P2.out _).mono ?_
  rintro e w2 ⟨rfl, hk, hb⟩
  have O2 : Hid (IsB w2 (some ⟨w1.heap.size, 0, none⟩) 8 8 (digB c 8)) := Lib.hid (isB_whole hk (digB_byt _ _) (digB_len _ _) (by decide))
  have O12 := Lib.hid (O1.out.ab hb)
  have D2 : Hid (w.heap.size + 1 < w2.heap.size) := Lib.hid (Nat.lt_of_lt_of_le (O1.out.lt _ rfl).2 hb.size)
  have R2 := Lib.hid (R1.out.ab hb)
  have B2 := Lib.hid (below_tr B1.out hb B1.out.size)
  clear hk hb R1 B1 O1 c1 c2
  have c2 := R2.out.cell (k := 2) rfl
  go_wp2_with fail
  refine (P3.out _).mono ?_
  rintro e w3 ⟨rfl, hk, hb⟩
  have O3 : Hid (IsB w3 (some ⟨w2.heap.size, 0, none⟩) 2 2 (digB g 2)) := Lib.hid (isB_whole hk (digB_byt _ _) (digB_len _ _) (by decide))
  have O23 := Lib.hid (O2.out.ab hb)
  have O13 := Lib.hid (O12.out.ab hb)
  have B3 := Lib.hid (below_tr B2.out hb B2.out.size)
  clear hk hb R2 B2 O2 O12 c2
  go_wp2_with (first
    | (refine wpList_appB _ rfl (.tmp 29) (.tmp 30) rfl Tryz.underlying39 hi0 hz0 hz1 hz2 rfl O13.out rfl O23.out rfl (by rw [digB_len]; decide) B3.out.size ?_
       intro v4 w4 hv4 hb4 hg4 hat4
       have V4 := Lib.hid hv4
       have B4 := Lib.hid (B3.out.trans hb4)
       have O34 : Hid (IsB w4 (some ⟨w2.heap.size, 0, none⟩) 2 2 (digB g 2)) := Lib.hid (by
         refine ⟨O3.out.1.grown hg4 fun x hx => ?_, O3.out.2⟩
         injection hx with hx
         subst hx
         simp only [Value.ownBlock, ne_eq, Option.some.injEq]
         have := D2.out
         omega)
       clear hv4 hb4 hg4 hat4)
    | (refine wpList_appB _ rfl (.tmp 32) (.tmp 33) rfl Tryz.underlying39 hi0 hz0 hz1 hz2 rfl V4.out rfl O34.out rfl (by rw [List.length_append, digB_len, digB_len]; decide) B4.out.size ?_
       intro v5 w5 hv5 hb5 hg5 hat5
       rw [← RE.out] at hv5
       have V5 := Lib.hid hv5
       have B5 := Lib.hid (B4.out.trans hb5)
       clear hv5 hb5 hg5 hat5))
  go_ret
  exact ⟨_, rfl, V5.out, B5.out⟩
theorem cut_own {w : World} {B : Nat} {v : Value} {l : List Nat} {n : Nat} (h : OwB w B v l) (hl : l.length = n) (h0 : 0 < n) : ∃ g c, v = .slice (some ⟨g, 0, none⟩) n c ∧ IsB w (some ⟨g, 0, none⟩) n c l := by
  obtain ⟨g, c, rfl, -⟩ := h.form (by omega)
  rw [hl] at h ⊢
  exact ⟨g, c, rfl, h.isB hl⟩
/-- how long a slice is -/
def lenW : Value → Nat
  | .slice _ n _ => n
  | _ => 0
theorem zeros_snoc (n : Nat) : zeros n ++ [0] = zeros (n + 1) := by
  unfold zeros
  rw [List.replicate_succ']
theorem fldM_flat (m : Mp) : flatN (fldM m) = digB m.cm 8 ++ refBy m.pg m.rc m.rg ++ digB m.lv 1 ++ digB m.gn 2 ++ digB m.tn 4 := by
  simp only [fldM, flatN, refBy, List.append_nil, List.append_assoc]
theorem digB_1 {k : Nat} (h : k < 256) : digB k 1 = [k] := by
  simp [digB]
  omega
set_option maxRecDepth 100000 in
set_option maxHeartbeats 4000000 in
theorem rbytes_any (m : Mp) (w : World) (hm : m.Ok) :
    Calls Tryz.prog 60 #[.agg (mpv m)] w fun e w' => ∃ v, e = .returned v ∧ OwB w' w.heap.size v (mbytes m) ∧ Below w.heap.size w w' := by
  obtain ⟨i0, hi0, hz0, hz1, hz2⟩ := info_parts infoU8
  have z1 : IntKind.u64.wrap (m.gn : Int) = (m.gn : Int) := wide_u64 m.gn (by have := hm.gn; omega)
  have z2 : IntKind.u64.wrap (m.tn : Int) = (m.tn : Int) := wide_u64 m.tn (by have := hm.tn; omega)
  have P1 := Lib.hid fun W => of_any m.cm 8 W hm.cm (by decide) (by decide)
  have P2 := Lib.hid fun W => rrefBytes_any m.pg m.rc m.rg W hm.pg hm.rc hm.rg
  have P3 := Lib.hid fun W => of_any m.gn 2 W (by have := hm.gn; omega) (by decide) (by decide)
  have P4 := Lib.hid fun W => of_any m.tn 4 W (by have := hm.tn; omega) (by decide) (by decide)
  have LE : Hid (mbytes m = (digB m.cm 8 ++ refBy m.pg m.rc m.rg ++ [m.lv] ++ digB m.gn 2 ++ digB m.tn 4) ++ zeros 195) := Lib.hid (by rw [mbytes, fldM_flat, digB_1 hm.lv])
  have LL : Hid ((digB m.cm 8 ++ refBy m.pg m.rc m.rg ++ [m.lv] ++ digB m.gn 2 ++ digB m.tn 4).length = 29) := Lib.hid (by simp [digB_len, refBy_len])
  have lR := Lib.hid (refBy_len m.pg m.rc m.rg)
  have LV := Lib.hid hm.lv
  have M0 := Lib.hid (MpB.new w m)
  have K0 : Hid (Below (w.heap.size + 1) (w.alloc (.cells (mpv m) 31)) (w.alloc (.cells (mpv m) 31))) := Lib.hid (Below.refl _ _)
  have HW : Hid (w.heap.size + 1 ≤ (w.alloc (.cells (mpv m) 31)).heap.size) := Lib.hid (by simp)
  have BW : Hid (∀ W, Below (w.heap.size + 1) (w.alloc (.cells (mpv m) 31)) W → Below w.heap.size w W) := Lib.hid fun W h => ((Below.refl _ _).alloc (Nat.le_refl _) _).trans (h.mono (by omega))
  have MW : Hid (∀ W, Below (w.heap.size + 1) (w.alloc (.cells (mpv m) 31)) W → MpB W w.heap.size m) := Lib.hid fun W h => M0.out.low h (by omega)
  generalize mbytes m = MB at *
  obtain ⟨cm, pg, rc, rg, lv, gn, tn⟩ := m
  simp only [mpv] at P1 P2 P3 P4 LE LL lR LV HW K0 BW MW z1 z2 ⊢
  generalize refBy pg rc rg = RB at *
  clear hm M0
  go_enter Tryz.func60, Tryz.ntmps60
  go_wp2_with fail
  refine (P1.out _).mono ?_
  rintro e w1 ⟨rfl, hk, hb⟩
  have O1 : Hid (OwB w1 (w.heap.size + 1) (.slice (some ⟨w.heap.size + 1, 0, none⟩) 8 8) (digB cm 8)) := Lib.hid (by
    have := dig_own (B := w.heap.size + 1) hk (by simp) (by decide)
    simpa using this)
  have K1 := Lib.hid (below_tr K0.out hb HW.out)
  have S1 := Lib.hid (Nat.le_trans HW.out hb.size)
  obtain ⟨c0, c1, c2, c3, c4, c5, c6⟩ := (MW.out _ K1.out).cells
  rw [show (w.alloc (.cells #[.int .u64 (cm : Int), .int .u32 (pg : Int), .int .u64 (rc : Int), .int .u16 (rg : Int), .int .u8 (lv : Int), .int .u16 (gn : Int), .int .u32 (tn : Int)] 31)).heap.size = w.heap.size + 1 by simp]
  clear hk hb K0
  go_wp2_with fail
  refine (P2.out _).mono ?_
  rintro e w2 ⟨v2, rfl, hv, hb⟩
  obtain ⟨g2, cc2, rfl, hI2⟩ := cut_own hv lR.out (by decide)
  have I2 := Lib.hid hI2
  have O2 := Lib.hid (O1.out.ab hb)
  have K2 := Lib.hid (below_tr K1.out hb S1.out)
  have S2 := Lib.hid (Nat.le_trans S1.out hb.size)
  clear hv hI2 hb K1 O1 c0 c1 c2 c3 c4 c5 c6
  go_wp2_with (first
    | (refine wpList_appB _ rfl (.tmp 15) (.tmp 19) rfl Tryz.underlying39 hi0 hz0 hz1 hz2 rfl O2.out rfl I2.out rfl (by simp [digB_len]) S2.out ?_
       intro v3 w3 hv3 hb3 hg3 hat3
       have V3 := Lib.hid hv3
       have K3 := Lib.hid (K2.out.trans hb3)
       have S3 := Lib.hid (Nat.le_trans S2.out hb3.size)
       obtain ⟨c0, c1, c2, c3, c4, c5, c6⟩ := (MW.out _ K3.out).cells
       clear hv3 hb3 hg3 hat3 O2 K2)
    | (refine wpList_appB _ rfl (.tmp 21) (.tmp 25) rfl Tryz.underlying39 hi0 hz0 hz1 hz2 rfl (V3.out.alloc _) rfl (isB_one _ lv LV.out) rfl (by simp [digB_len, lR.out]) (by have := S3.out; simp; omega) ?_
       intro v4 w4 hv4 hb4 hg4 hat4
       have V4 := Lib.hid hv4
       have K4 := Lib.hid ((K3.out.alloc S3.out _).trans hb4)
       have S4 : Hid (w.heap.size + 1 ≤ w4.heap.size) := Lib.hid (by have := hb4.size; have := S3.out; simp at *; omega)
       clear hv4 hb4 hg4 hat4 V3 K3 c0 c1 c2 c3 c4 c5 c6
       obtain ⟨c0, c1, c2, c3, c4, c5, c6⟩ := (MW.out _ K4.out).cells))
  refine (P3.out _).mono ?_
  rintro e w5 ⟨rfl, hk, hb⟩
  have I5 : Hid (IsB w5 (some ⟨w4.heap.size, 0, none⟩) 2 2 (digB gn 2)) := Lib.hid (isB_whole hk (digB_byt _ _) (digB_len _ _) (by decide))
  have V5 := Lib.hid (V4.out.ab hb)
  have K5 := Lib.hid (below_tr K4.out hb S4.out)
  have S5 := Lib.hid (Nat.le_trans S4.out hb.size)
  clear hk hb K4 V4 c0 c1 c2 c3 c4 c5 c6
  go_wp2_with (refine wpList_appB _ rfl (.tmp 34) (.tmp 35) rfl Tryz.underlying39 hi0 hz0 hz1 hz2 rfl V5.out rfl I5.out rfl (by simp [digB_len, lR.out]) S5.out ?_
               intro v6 w6 hv6 hb6 hg6 hat6
               have V6 := Lib.hid hv6
               have K6 := Lib.hid (K5.out.trans hb6)
               have S6 := Lib.hid (Nat.le_trans S5.out hb6.size)
               clear hv6 hb6 hg6 hat6 V5 K5
               obtain ⟨c0, c1, c2, c3, c4, c5, c6⟩ := (MW.out _ K6.out).cells)
  refine (P4.out _).mono ?_
  rintro e w7 ⟨rfl, hk, hb⟩
  have I7 : Hid (IsB w7 (some ⟨w6.heap.size, 0, none⟩) 4 4 (digB tn 4)) := Lib.hid (isB_whole hk (digB_byt _ _) (digB_len _ _) (by decide))
  have V7 := Lib.hid (V6.out.ab hb)
  have K7 := Lib.hid (below_tr K6.out hb S6.out)
  have S7 := Lib.hid (Nat.le_trans S6.out hb.size)
  clear hk hb K6 V6 c0 c1 c2 c3 c4 c5 c6
  go_wp2_with (refine wpList_appB _ rfl (.tmp 44) (.tmp 45) rfl Tryz.underlying39 hi0 hz0 hz1 hz2 rfl V7.out rfl I7.out rfl (by simp [digB_len, lR.out]) S7.out ?_
               intro v8 w8 hv8 hb8 hg8 hat8
               have V8 := Lib.hid hv8
               have K8 := Lib.hid (K7.out.trans hb8)
               have S8 := Lib.hid (Nat.le_trans S7.out hb8.size)
               clear hv8 hb8 hg8 hat8 V7 K7)
  have B8 := Lib.hid (BW.out _ K8.out)
  clear K8 HW BW MW P1 P2 P3 P4 z1 z2 I2 I5 I7 S1 S2 S3 S4 S5 S6 S7
  generalize (digB cm 8 ++ RB ++ [lv] ++ digB gn 2 ++ digB tn 4) = L at *
  go_loopw [3] (fun v wr => ∃ q : Nat, q ≤ 195 ∧ OwB wr (w.heap.size + 1) v (L ++ zeros q) ∧ Below w.heap.size w wr ∧ w.heap.size + 1 ≤ wr.heap.size) (fun v _ => 224 - lenW v)
  case atStart => exact ⟨0, Nat.zero_le _, by simpa [zeros] using V8.out, B8.out, S8.out⟩
  case round =>
    obtain ⟨q, hq, ho, kb, hs⟩ := hrel
    obtain ⟨A, cap, rfl, _, _⟩ := ho.shape
    have hl : (L ++ zeros q).length = 29 + q := by rw [List.length_append, LL.out, zeros_len]
    rw [hl] at ho ⊢
    by_cases hlt : q < 195
    · have hc : decide (((29 + q : Nat) : Int) < 224) = true := by simp; omega
      have hc2 : decide (29 + (q : Int) < 224) = true := by simp; omega
      have OO := Lib.hid ho
      have KB := Lib.hid kb
      have HS := Lib.hid hs
      have HQ := Lib.hid hlt
      have HLL := Lib.hid hl
      clear ho kb hs hlt hq hl
      go_wp2_with (refine wpList_appB _ rfl (.tmp 50) (.tmp 51) rfl Tryz.underlying39 hi0 hz0 hz1 hz2 rfl (OO.out.alloc _) rfl (isB_one _ 0 (by decide)) rfl (by rw [HLL.out]; have := HQ.out; omega) (by have := HS.out; simp; omega) ?_
                   intro v4 w4 hv4 hb4 hg4 hat4
                   rw [List.append_assoc, zeros_snoc] at hv4
                   have V4 := Lib.hid hv4
                   have K4 := Lib.hid ((KB.out.alloc KB.out.size _).trans (hb4.mono (by omega)))
                   have S4 : Hid (w.heap.size + 1 ≤ w4.heap.size) := Lib.hid (by have := hb4.size; have := HS.out; simp at *; omega)
                   clear hv4 hb4 hg4 hat4)
      go_roundw
      case rel => exact ⟨q + 1, HQ.out, V4.out, K4.out, S4.out⟩
      case measure =>
        obtain ⟨A', cap', rfl, _, _⟩ := V4.out.shape
        have := HQ.out
        simp only [lenW, List.length_append, LL.out, zeros_len]
        omega
    · obtain rfl : q = 195 := by omega
      have hc : decide (((29 + 195 : Nat) : Int) < 224) = false := by decide
      rw [← LE.out] at ho
      have OO := Lib.hid ho
      have KB := Lib.hid kb
      clear ho kb hs hlt hq hl
      go_wp2_with fail
      go_ret
      exact ⟨_, rfl, OO.out.lower (by omega), KB.out⟩
end Go.Proofs.YtmeakfocppooiaaGreat
