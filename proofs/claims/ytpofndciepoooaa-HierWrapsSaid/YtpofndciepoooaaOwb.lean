/-
  BYTES OF THE CALL's OWN: slices of bytes that a call has made, as lists of numbers: append, stores, what is kept.
-/
import Derived.Test.YtpofndciepoooaaOct
namespace Go.Proofs.Ytpofndciepoooaa
open Go.RowKit
set_option linter.unusedVariables false

def bvals (l : List Nat) : List Value := l.map (fun n : Nat => Value.int .u8 (n : Int))
theorem bvals_ints (l : List Nat) : bvals l = (l.map (fun n : Nat => (n : Int))).map (Value.int .u8) := by simp [bvals]
theorem byt_wf {l : List Nat} (h : Byt l) : ∀ z ∈ l.map (fun n : Nat => (n : Int)), (Lit.int .u8 z).wf = true := by
  intro z hz
  obtain ⟨x, hx, rfl⟩ := List.mem_map.1 hz
  have := h x hx
  simp only [Lit.wf, Bool.and_eq_true, decide_eq_true_eq]
  have e1 : IntKind.u8.min = 0 := rfl
  have e2 : IntKind.u8.max = 255 := rfl
  omega
/-- bytes of the call's own (from block B on) -/
structure OwB (w : World) (B : Nat) (v : Value) (l : List Nat) : Prop where
  own : w.ownsRow B 5 1 v l.length (bvals l)
  byt : Byt l
section
variable {w w' : World} {B : Nat} {v : Value} {l : List Nat}
theorem OwB.nil (w : World) (B : Nat) : OwB w B (.slice none 0 0) [] := ⟨⟨rfl, .inl ⟨rfl, rfl⟩⟩, fun x hx => by cases hx⟩
theorem OwB.alloc (h : OwB w B v l) (o : Obj) : OwB (w.alloc o) B v l := ⟨h.own.alloc o, h.byt⟩
theorem OwB.drew (h : OwB w B v l) : OwB w.drew B v l := ⟨h.own, h.byt⟩
theorem OwB.drewN (h : OwB w B v l) (n : Nat) : OwB (w.drewN n) B v l := ⟨h.own, h.byt⟩
theorem OwB.kept (h : OwB w B v l) {row : Option Nat} (hg : w.grownBy w' row) (hne : v.ownBlock = none ∨ v.ownBlock ≠ row) : OwB w' B v l := ⟨h.own.kept hg hne, h.byt⟩
theorem OwB.lt (h : OwB w B v l) : ∀ g, v.ownBlock = some g → B ≤ g ∧ g < w.heap.size := h.own.lt
/-- nothing turns below C: what lies there stays -/
theorem OwB.below {C : Nat} (h : OwB w B v l) (hb : Below C w w') (hC : ∀ g, v.ownBlock = some g → g < C) : OwB w' B v l := by
  refine ⟨⟨h.own.1, ?_⟩, h.byt⟩
  rcases h.own.2 with hn | ⟨g, cap, cur, rfl, hb', hgg, rest⟩
  · exact .inl hn
  · exact .inr ⟨g, cap, cur, rfl, hb', (hb.block g (hC g rfl)).trans hgg, rest⟩
theorem OwB.ab (h : OwB w B v l) (hb : Below w.heap.size w w') : OwB w' B v l := h.below hb fun g hg => (h.lt g hg).2
theorem OwB.form (h : OwB w B v l) (hl : 0 < l.length) : ∃ g cap, v = .slice (some ⟨g, 0, none⟩) l.length cap ∧ B ≤ g ∧ g < w.heap.size ∧ l.length ≤ cap ∧ cap ≤ 9223372036854775807 ∧ ∀ i, i < l.length → w.cell? ⟨g, i, none⟩ = some (.int .u8 (at' l i : Nat)) := by
  have ho := h.own
  rcases h.own.2 with ⟨_, h0⟩ | ⟨g, cap, cur, rfl, hb', hgg, hnc, hcm, hcs, ht⟩
  · omega
  · refine ⟨g, cap, rfl, hb', lt_of_block hgg, hnc, hcm, fun i hi => ?_⟩
    rw [ho.cellAt i (by omega)]
    simp [bvals, at', List.getElem?_eq_getElem hi]
theorem OwB.shape (h : OwB w B v l) : ∃ A cap, v = .slice A l.length cap ∧ l.length ≤ cap ∧ cap ≤ 9223372036854775807 := by
  rcases h.own.2 with ⟨rfl, h0⟩ | ⟨g, cap, cur, rfl, hb', hgg, hnc, hcm, hcs, ht⟩
  · exact ⟨none, 0, by rw [h0], by omega, by omega⟩
  · exact ⟨_, cap, rfl, hnc, hcm⟩
theorem OwB.isB {A : Option Addr} {n c : Nat} (h : OwB w B (.slice A n c) l) (hn : l.length = n) : IsB w A n c l := by
  have ho := h.own
  rw [hn, bvals_ints] at ho
  exact ⟨isRow_own ho (byt_wf h.byt), h.byt⟩
theorem OwB.rw {g n c : Nat} (h : OwB w B (.slice (some ⟨g, 0, none⟩) n c) l) : ∀ i, i < l.length → w.cell? ⟨g, i, none⟩ = some (.int .u8 (at' l i : Nat)) := by
  by_cases hl : 0 < l.length
  · obtain ⟨g', cap, e, _, _, _, _, hc⟩ := h.form hl
    simp only [Value.slice.injEq, Option.some.injEq, Addr.mk.injEq, and_true] at e
    rw [e.1]
    exact hc
  · intro i hi; omega
theorem OwB.store {g n c : Nat} (h : OwB w B (.slice (some ⟨g, 0, none⟩) n c) l) (hn : l.length = n) {k x : Nat} (hx : x < 256) : OwB (w.setCell ⟨g, k, none⟩ (.int .u8 (x : Int))) B (.slice (some ⟨g, 0, none⟩) n c) (l.set k x) := by
  have ho := h.own
  rw [hn] at ho
  have := (ho.stored k (.int .u8 (x : Int))).1
  refine ⟨?_, fun y hy => ?_⟩
  · rw [List.length_set, hn]
    have e : bvals (l.set k x) = (bvals l).set k (.int .u8 (x : Int)) := by simp [bvals, List.map_set]
    rw [e]
    exact this
  · rcases List.mem_or_eq_of_mem_set hy with hy | rfl
    · exact h.byt y hy
    · exact hx
theorem OwB.free {g n c : Nat} (h : OwB w B (.slice (some ⟨g, 0, none⟩) n c) l) (hn : l.length = n) (k : Nat) : w.frozen? ⟨g, k, none⟩ = false := by
  have ho := h.own
  rw [hn] at ho
  exact ho.frozenAt k
/-- a block of bytes, owned -/
theorem OwB.ofBk {g n c : Nat} {l' : List Nat} (h : Bk w g 5 l') (hB : B ≤ g) (hn : l.length = n) (hnc : n ≤ c) (hc : l'.length = c) (hcm : c ≤ 9223372036854775807) (hl : l'.take n = l) (hb : Byt l) : OwB w B (.slice (some ⟨g, 0, none⟩) n c) l := by
  refine ⟨⟨by simp [bvals], .inr ⟨g, c, bts l', by rw [hn], hB, h, by omega, hcm, by rw [bts_size]; omega, ?_⟩⟩, hb⟩
  rw [bts_list, Nat.mul_one, hn, ← List.map_take, hl]
  rfl
/-- one byte, laid anew -/
theorem isB_one (w : World) (x : Nat) (hx : x < 256) : IsB (w.alloc (.cells #[.int .u8 (x : Int)] 5)) (some ⟨w.heap.size, 0, none⟩) 1 1 [x] :=
  ⟨isRow_lit w 5 .u8 [(x : Int)] 1 rfl (by simp [maxLen]) (byt_wf (l := [x]) (fun y hy => by simp at hy; omega)), fun y hy => by simp at hy; omega⟩
theorem IsB.ab {A : Option Addr} {n c : Nat} (h : IsB w A n c l) (hb : Below w.heap.size w w') : IsB w' A n c l := h.below hb
theorem IsB.drew {A : Option Addr} {n c : Nat} (h : IsB w A n c l) : IsB w.drew A n c l := ⟨h.1.drew, h.2⟩
theorem IsB.drewN {A : Option Addr} {n c : Nat} (h : IsB w A n c l) (m : Nat) : IsB (w.drewN m) A n c l := ⟨h.1.drewN m, h.2⟩
theorem IsB.alloc {A : Option Addr} {n c : Nat} (h : IsB w A n c l) (o : Obj) : IsB (w.alloc o) A n c l := ⟨h.1.alloc o, h.2⟩
/-- what is read below B stays where only blocks from B on turn -/
theorem IsB.far {C : Nat} {A : Option Addr} {n c : Nat} (h : IsB w A n c l) (hb : Below C w w') (hC : ∀ x, A = some x → x.block < C) (hs : w.heap.size ≤ w'.heap.size) : IsB w' A n c l :=
  ⟨h.1.keep hs fun x i e hi => hb.cell (by rw [add_block]; exact hC x e), h.2⟩
end
theorem byt_app {a b : List Nat} (ha : Byt a) (hb : Byt b) : Byt (a ++ b) := fun x hx => by
  rcases List.mem_append.1 hx with h | h
  · exact ha x h
  · exact hb x h

section
variable {P : Program} (w : World)
theorem run_appB {B : Nat} {t ty : TypeId} {i : TypeInfo} {z : Value} (ht : P.underlying t = some (.slice 5)) (hi : P.info? 5 = some i) (hz : i.zero = some z)
    (hsize : i.size = 1) (hby : i.bytes = 1) (hzs : z.cells.size = 1)
    {v : Value} {l : List Nat} (hown : OwB w B v l) {A : Option Addr} {m c : Nat} {ys : List Nat} (hr : IsB w A m c ys) (hm : l.length + m ≤ 140737488355328) (hbase : B ≤ w.heap.size) :
    ∃ v' w', (Builtin.append_ #[t, t] ty #[v, .slice A m c]).run P w = .ok v' w' ∧ OwB w' B v' (l ++ ys) ∧ Below B w w' ∧ w.grownBy w' v.ownBlock ∧ (v'.ownBlock = v.ownBlock ∨ v'.ownBlock = some w.heap.size) := by
  have ho := hown.own
  rw [bvals_ints] at ho
  have ho2 : w.ownsRow B 5 1 v (l.map (fun n : Nat => (n : Int))).length ((l.map (fun n : Nat => (n : Int))).map (Value.int .u8)) := by rw [List.length_map]; exact ho
  obtain ⟨v', w', h1, h2, h3, h4⟩ := run_app (P := P) w (ty := ty) (bytes := 1) ht hi hz hsize hby hzs ho2 hr.1 (by rw [List.length_map]; simp only [maxLen]; omega) (by rw [List.length_map]; omega) hbase
  refine ⟨v', w', h1, ⟨?_, byt_app hown.byt hr.2⟩, below_app ho hbase h3, h3, h4⟩
  rw [bvals_ints, List.map_append, List.length_append]
  have : (List.map (fun n : Nat => (n : Int)) l ++ List.map (fun x : Nat => (x : Int)) ys).length = l.length + ys.length := by simp
  rw [this] at h2
  exact h2
theorem wpList_appB {ops : Array Oper} {rest : List Oper} {o : Oper} {a : Act} {Q : Exit → Act → World → Prop} (hgd : o.guard = none) (s x : Operand) {t : TypeId}
    (ho : o.op = .call { callee := .builtin .append, args := #[s, x], argTypes := #[t, t] })
    {B : Nat} {i : TypeInfo} {z : Value} (ht : P.underlying t = some (.slice 5)) (hi : P.info? 5 = some i) (hz : i.zero = some z)
    (hsize : i.size = 1) (hby : i.bytes = 1) (hzs : z.cells.size = 1)
    {v : Value} {l : List Nat} (hown : OwB w B v l) (hs : a.eval s = v)
    {A : Option Addr} {m c : Nat} {ys : List Nat} (hr : IsB w A m c ys) (hx : a.eval x = .slice A m c)
    (hm : l.length + m ≤ 140737488355328) (hbase : B ≤ w.heap.size)
    (h : ∀ v' w', OwB w' B v' (l ++ ys) → Below B w w' → w.grownBy w' v.ownBlock → (v'.ownBlock = v.ownBlock ∨ v'.ownBlock = some w.heap.size) → wpList P ops Q rest (a.put o.dst v') w') : wpList P ops Q (o :: rest) a w := by
  obtain ⟨v', w', hrun, h2, h3, h4, h5⟩ := run_appB (P := P) w (ty := o.type) ht hi hz hsize hby hzs hown hr hm hbase
  refine wpList_plain hgd fun K hK => ?_
  unfold Oper.wp execOp
  simp only [ho, resolve, invoke, builtin, Sem.run_bind, Sem.run_pure, Result.andThen_ok, List.map_toArray, List.map_cons, List.map_nil, hs, hx, hrun]
  exact hK _ _ (h v' w' h2 h3 h4 h5)
end
end Go.Proofs.Ytpofndciepoooaa
