/-
  KIT OF OURS: append of noughts, as Go's compiler makes of append(b, make([]byte, n)...), onto bytes of the call's own.
-/
import Derived.Test.YtgnooakjkpkgiaaCtC
import Derived.Lib.AppendZeros
import Derived.Lib.AppendZerosOnto
namespace Go.Proofs.Ytgnooakjkpkgiaa
open Go.RowKit
set_option linter.unusedVariables false

theorem zeroCells_u8 (k : Nat) : Builtin.zeroCells #[Value.int .u8 0] k = bts (zeros k) := by
  apply Array.ext
  · simp [Builtin.zeroCells, bts, zeros]
  · intro i h1 h2
    simp [Builtin.zeroCells, bts, zeros, Nat.mod_one]
section
variable {P : Program} (w : World)
theorem run_append_zroom (t tn ty e : TypeId) (i : TypeInfo) (z : Value) (ht : P.underlying t = some (.slice e)) (htn : P.underlying tn = some (.int .i64)) (hi : P.info? e = some i) (hz : i.zero = some z) (hsz : i.size = 1) (hby : i.bytes = 1) (hzc : z.cells = #[.int .u8 0])
    (g sLen sCap k : Nat) (cur : Array Value) (hg : w.heap[g]? = some (.cells cur e (0, 0))) (h0 : 0 < k) (hk : k ≤ 140737488355328)
    (hroom : sLen + k ≤ sCap) (hfit : sLen + k ≤ cur.size) :
    (Builtin.append_ #[t, tn] ty #[.slice (some ⟨g, 0, none⟩) sLen sCap, .int .i64 (k : Int)]).run P w =
      .ok (.slice (some ⟨g, 0, none⟩) (sLen + k) sCap) (w.setRow g (cur.toList.take sLen ++ bvals (zeros k) ++ cur.toList.drop (sLen + k)).toArray) := by
  have hst := run_storeCells_at P g sLen e (bvals (zeros k)) 0 cur w hg (by simp [bvals, zeros]; omega) (by simp [bvals, Value.oneCell'])
  have hl : (bvals (zeros k)).length = k := by simp [bvals, zeros]
  simp only [Nat.add_zero, hl] at hst
  have hw : IntKind.i64.wrap (k : Int) = k := IntWalk.i64_in _ (by omega)
  have hneg : ¬ ((k : Int) < 0) := by omega
  have h48 : ¬ (281474976710656 < (k : Int) * ((1 : Nat) : Int)) := by omega
  have hne : k ≠ 0 := by omega
  have hzz : (Builtin.zeroCells #[Value.int .u8 0] k).toList = bvals (zeros k) := by rw [zeroCells_u8, bts_list]; rfl
  simp [Builtin.append_, run_underlying ht, run_underlying htn, sizeOf, typeInfo, zeroValue, hi, hz, asInt, asIntOf, hw, hneg, hne, hsz, hby, hroom, Addr.add_lit, hzc, hzz, hst]
  omega
theorem run_appZ {B : Nat} {t tn ty : TypeId} {i : TypeInfo} {z : Value} (ht : P.underlying t = some (.slice 5)) (htn : P.underlying tn = some (.int .i64)) (hi : P.info? 5 = some i) (hz : i.zero = some z) (hsz : i.size = 1) (hby : i.bytes = 1) (hzc : z.cells = #[.int .u8 0])
    {v : Value} {l : List Nat} (hown : OwB w B v l) (k : Nat) (h0 : 0 < k) (hm : l.length + k ≤ 140737488355328) (hbase : B ≤ w.heap.size) :
    ∃ v' w', (Builtin.append_ #[t, tn] ty #[v, .int .i64 (k : Int)]).run P w = .ok v' w' ∧ OwB w' B v' (l ++ zeros k) ∧ Below B w w' ∧ w.grownBy w' v.ownBlock := by
  have hz0 : Byt (zeros k) := fun x hx => by rw [List.eq_of_mem_replicate hx]; decide
  have ho := hown.own
  have hzl : (zeros k).length = k := zeros_len k
  have hlen : (l ++ zeros k).length = l.length + k := by rw [List.length_append, hzl]
  have hbv : bvals (l ++ zeros k) = bvals l ++ bvals (zeros k) := by simp [bvals]
  have grown : ∀ (old : Nat) (row : Option Nat),
      OwB (w.drew.alloc (.cells ((bvals l).toArray ++ bts (zeros k) ++ bts (zeros (grownCap w (l.length + k) old 5 - (l.length + k)))) 5)) B (.slice (some ⟨w.heap.size, 0, none⟩) (l.length + k) (grownCap w (l.length + k) old 5)) (l ++ zeros k) ∧
      w.grownBy (w.drew.alloc (.cells ((bvals l).toArray ++ bts (zeros k) ++ bts (zeros (grownCap w (l.length + k) old 5 - (l.length + k)))) 5)) row := by
    intro old row
    have hge := grownCap_ge w (l.length + k) old 5
    have hcm : grownCap w (l.length + k) old 5 ≤ maxLen := grownCap_le_maxLen w (l.length + k) old 5 (by simp only [maxLen]; omega)
    refine ⟨OwB.ofBk (l' := l ++ zeros k ++ zeros (grownCap w (l.length + k) old 5 - (l.length + k))) ?_ hbase hlen hge ?_ hcm ?_ (byt_app hown.byt hz0), ⟨rfl, rfl, rfl, by simp, fun j hj _ => heap_alloc_old w.drew _ hj⟩⟩
    · have e : (bvals l).toArray ++ bts (zeros k) ++ bts (zeros (grownCap w (l.length + k) old 5 - (l.length + k))) = bts (l ++ zeros k ++ zeros (grownCap w (l.length + k) old 5 - (l.length + k))) := by
        apply Array.ext'
        simp [bts, bvals]
      rw [e]
      exact Bk.newAt _ _ rfl
    · rw [List.length_append, hlen, zeros_len]
      omega
    · rw [List.take_append_of_le_length (by omega), List.take_of_length_le (by omega)]
  rcases ho.2 with ⟨rfl, hx⟩ | ⟨g, cap, cur, rfl, hbg, hg, hnc, hcm, hcs, htake⟩
  · have hl0 : l = [] := List.eq_nil_of_length_eq_zero hx
    subst hl0
    have hr := Lib.run_append_nil_zeros (P := P) w t tn ty 5 i z .i64 .i64 ht htn hi hz k h0 (by omega) (by simp at hm; omega) (by rw [hby]; simp at hm; omega)
    have hg := grown 0 none
    simp only [List.length_nil, Nat.zero_add, List.nil_append, bvals, List.map_nil, Array.empty_append] at hg
    rw [hzc, zeroCells_u8, zeroCells_u8] at hr
    refine ⟨_, _, hr, hg.1, ⟨hg.2.os, hg.2.tape, hg.2.output, hg.2.size, fun j hj => hg.2.block j (by omega) (by simp)⟩, ⟨hg.2.os, hg.2.tape, hg.2.output, hg.2.size, fun j hj _ => hg.2.block j hj (by simp)⟩⟩
  · by_cases hroom : l.length + k ≤ cap
    · have hr := run_append_zroom (P := P) w t tn ty 5 i z ht htn hi hz hsz hby hzc g l.length cap k cur hg h0 (by omega) hroom (by rw [hcs]; omega)
      refine ⟨_, _, hr, ⟨⟨?_, .inr ⟨g, cap, _, ?_, hbg, setRow_heap w g cur _ 5 _ hg, ?_, hcm, ?_, ?_⟩⟩, byt_app hown.byt hz0⟩, Below.row (Below.refl _ _) hbg _, ⟨rfl, rfl, rfl, by simp, fun j _ hj => setRow_other w g j _ (fun e => hj (by simp [Value.ownBlock, e]))⟩⟩
      · simp [bvals]
      · rw [hlen]
      · rw [hlen]; exact hroom
      · simp only [List.size_toArray, List.length_append, List.length_take, List.length_drop, Array.length_toList, bvals, List.length_map, hzl]
        omega
      · rw [hbv]
        have e1 : (bvals l).length = l.length := by simp [bvals]
        have e2 : (bvals (zeros k)).length = k := by simp [bvals, zeros]
        have e3 : cur.toList.take l.length = bvals l := by
          have := htake
          simpa using this
        rw [e3, List.take_append_of_le_length (by rw [List.length_append, List.length_append, e1, e2, hzl]; omega), List.take_of_length_le (by rw [List.length_append, List.length_append, e1, e2, hzl]; omega)]
    · have hcells := hown.rw
      have hold : (Builtin.firstCells i.size l.length (.slice (some ⟨g, 0, none⟩) l.length cap)).run P w.drew = .ok (bvals l).toArray w.drew := by
        refine run_firstCells_some (P := P) w.drew i.size l.length ⟨g, 0, none⟩ l.length cap (bvals l) (by rw [hsz]; simp [bvals]) fun j u hj => ?_
        have hjl : j < l.length := by
          rcases Nat.lt_or_ge j l.length with h | h
          · exact h
          · rw [List.getElem?_eq_none (by simp [bvals]; omega)] at hj; cases hj
        have h1 := hcells j hjl
        have e1 : (Addr.mk g 0 none).add j = ⟨g, j, none⟩ := by rw [Addr.add_mid, Nat.zero_add]
        rw [e1]
        show w.cell? _ = _
        rw [h1, ← hj]
        simp [bvals, at', List.getElem?_eq_getElem hjl]
      have hr := Lib.run_append_grow_zeros (P := P) w t tn ty 5 i z .i64 .i64 ht htn hi hz (some ⟨g, 0, none⟩) l.length cap (bvals l) hold k h0 (by omega) (by omega) (by omega) (by rw [hby]; omega) (growslice_fits (by omega) (by rw [hby]; omega))
      rw [hzc, zeroCells_u8, zeroCells_u8] at hr
      have hg2 := grown cap none
      refine ⟨_, _, hr, hg2.1, ⟨hg2.2.os, hg2.2.tape, hg2.2.output, hg2.2.size, fun j hj => hg2.2.block j (by omega) (by simp)⟩, ⟨hg2.2.os, hg2.2.tape, hg2.2.output, hg2.2.size, fun j hj _ => hg2.2.block j hj (by simp)⟩⟩
theorem wpList_appZ {ops : Array Oper} {rest : List Oper} {o : Oper} {a : Act} {Q : Exit → Act → World → Prop} (hgd : o.guard = none) (s x : Operand) {t tn : TypeId}
    (ho : o.op = .call { callee := .builtin .append, args := #[s, x], argTypes := #[t, tn] })
    {B : Nat} {i : TypeInfo} {z : Value} (ht : P.underlying t = some (.slice 5)) (htn : P.underlying tn = some (.int .i64)) (hi : P.info? 5 = some i) (hz : i.zero = some z)
    (hsz : i.size = 1) (hby : i.bytes = 1) (hzc : z.cells = #[.int .u8 0])
    {v : Value} {l : List Nat} (hown : OwB w B v l) (hs : a.eval s = v) (k : Nat) (hx : a.eval x = .int .i64 (k : Int)) (h0 : 0 < k)
    (hm : l.length + k ≤ 140737488355328) (hbase : B ≤ w.heap.size)
    (h : ∀ v' w', OwB w' B v' (l ++ zeros k) → Below B w w' → w.grownBy w' v.ownBlock → wpList P ops Q rest (a.put o.dst v') w') : wpList P ops Q (o :: rest) a w := by
  obtain ⟨v', w', hrun, h2, h3, h4⟩ := run_appZ (P := P) w (ty := o.type) ht htn hi hz hsz hby hzc hown k h0 hm hbase
  refine wpList_plain hgd fun K hK => ?_
  unfold Oper.wp execOp
  simp only [ho, resolve, invoke, builtin, Sem.run_bind, Sem.run_pure, Result.andThen_ok, List.map_toArray, List.map_cons, List.map_nil, hs, hx, hrun]
  exact hK _ _ (h v' w' h2 h3 h4)
end
end Go.Proofs.Ytgnooakjkpkgiaa
