/-
  SLICES OF INTEGERS IN MEMORY: what came in, what a call made; append, make, cuts: small laws over 'IsRow' and 'ownsRow'.
-/
import Derived.Test.YtakgebbeknfplaaGreatFrame
import Derived.Maps.AppendAt
import Derived.Laws.OwnMore
import Derived.OwnWalk
import Derived.Lib.Hide
import Derived.Deep.Draws
namespace Go.Proofs.YtakgebbeknfplaaGreat
open Go.RowKit

section
variable {w w' : World} {k : IntKind} {A : Option Addr} {n c : Nat} {zs : List Int}

theorem below_dn {B : Nat} {a b : World} (h : Below B a b) (m : Nat) : Below B a (b.drewN m) := ⟨h.os, h.tape, h.output, h.size, h.block⟩
theorem add_block (a : Addr) (i : Nat) : (a.add i).block = a.block := by unfold Addr.add; split <;> rfl

theorem IsRow.len (h : IsRow k w A n c zs) : zs.length = n := h.1
theorem IsRow.lenCap (h : IsRow k w A n c zs) : n ≤ c := h.2.1
theorem IsRow.capMax (h : IsRow k w A n c zs) : c ≤ 9223372036854775807 := h.2.2.1
theorem IsRow.wf (h : IsRow k w A n c zs) : ∀ z ∈ zs, (Lit.int k z).wf = true := h.2.2.2.1
theorem IsRow.at (h : IsRow k w A n c zs) (hn : 0 < n) : ∃ x, A = some x ∧ x.block < w.heap.size ∧ ∀ i, i < n → w.cell? (x.add i) = some (.int k (zs.getD i 0)) := by
  obtain ⟨_, hc, _, _, h5⟩ := h
  rcases h5 with ⟨_, h0⟩ | ⟨x, h1, h2, h3⟩
  · omega
  · exact ⟨x, h1, h2 (by omega), h3⟩
theorem IsRow.keep (h : IsRow k w A n c zs) (hs : w.heap.size ≤ w'.heap.size) (hc : ∀ x i, A = some x → i < n → w'.cell? (x.add i) = w.cell? (x.add i)) : IsRow k w' A n c zs := by
  obtain ⟨h1, h2, h3, h4, h5⟩ := h
  refine ⟨h1, h2, h3, h4, ?_⟩
  rcases h5 with h5 | ⟨x, e, hb, hx⟩
  · exact .inl h5
  · exact .inr ⟨x, e, fun h0 => Nat.lt_of_lt_of_le (hb h0) hs, fun i hi => (hc x i e hi).trans (hx i hi)⟩
theorem IsRow.below (h : IsRow k w A n c zs) (hb : Below w.heap.size w w') : IsRow k w' A n c zs :=
  h.keep hb.size fun x i e hi => hb.cell (by
    obtain ⟨y, e', hy, _⟩ := h.at (by omega)
    rw [e] at e'
    injection e' with e'
    rw [add_block, e']
    exact hy)
theorem IsRow.drew (h : IsRow k w A n c zs) : IsRow k w.drew A n c zs := h
theorem IsRow.drewN (h : IsRow k w A n c zs) (m : Nat) : IsRow k (w.drewN m) A n c zs := h
theorem IsRow.alloc (h : IsRow k w A n c zs) (o : Obj) : IsRow k (w.alloc o) A n c zs := h.below ((Below.refl _ _).alloc (Nat.le_refl _) o)
/-- of one that lies below B nothing turns where only blocks from B on are written -/
theorem IsRow.grown (h : IsRow k w A n c zs) {row : Option Nat} (hg : w.grownBy w' row) (hr : ∀ x, A = some x → row ≠ some x.block) : IsRow k w' A n c zs :=
  h.keep hg.size fun x i e hi => World.cell?_of_block (hg.block _ (by
    obtain ⟨y, e', hy, _⟩ := h.at (by omega)
    rw [e] at e'
    injection e' with e'
    rw [add_block, e']
    exact hy) (by rw [add_block]; exact fun e2 => hr x e e2.symm))

/-- a nil slice -/
theorem isRow_nil (w : World) (k : IntKind) : IsRow k w none 0 0 [] := ⟨rfl, Nat.le_refl _, Nat.zero_le _, by simp, .inl ⟨rfl, rfl⟩⟩

/-- what is owned can be read -/
theorem isRow_own {B : Nat} {e : TypeId} (h : w.ownsRow B e 1 (.slice A n c) n (zs.map (Value.int k))) (hw : ∀ z ∈ zs, (Lit.int k z).wf = true) : IsRow k w A n c zs := by
  have hl : zs.length = n := by have := h.1; simpa using this
  rcases h.2 with ⟨hv, h0⟩ | ⟨g, cap, cur, hv, hg, hh, hnc, hcm, hcs, ht⟩
  · simp only [Value.slice.injEq] at hv
    obtain ⟨rfl, rfl, rfl⟩ := hv
    exact ⟨hl, Nat.le_refl _, Nat.zero_le _, hw, .inl ⟨rfl, rfl⟩⟩
  · simp only [Value.slice.injEq] at hv
    obtain ⟨rfl, -, rfl⟩ := hv
    refine ⟨hl, hnc, hcm, hw, .inr ⟨_, rfl, fun _ => ?_, fun i hi => ?_⟩⟩
    · rcases Nat.lt_or_ge g w.heap.size with h' | h'
      · exact h'
      · rw [Array.getElem?_eq_none h'] at hh; cases hh
    · have hca := World.ownsRow.cellAt (j := i) h (by omega)
      have e1 : (Addr.mk g 0 none).add i = ⟨g, i, none⟩ := by
        unfold Addr.add
        split
        · subst i; rfl
        · simp
      rw [e1, hca]
      simp [List.getElem?_map, List.getElem?_eq_getElem (show i < zs.length by omega), List.getD]

/-- the shape of what is owned -/
theorem own_form {B : Nat} {e : TypeId} {v : Value} {xs : List Value} (h : w.ownsRow B e 1 v n xs) : ∃ A c, v = .slice A n c ∧ (∀ x, A = some x → B ≤ x.block ∧ x.off = 0 ∧ x.spot = none) ∧ (0 < n → A ≠ none) := by
  rcases h.2 with ⟨rfl, rfl⟩ | ⟨g, cap, cur, rfl, hg, _⟩
  · exact ⟨none, 0, rfl, by simp, by simp⟩
  · refine ⟨_, _, rfl, ?_, by simp⟩
    intro x hx
    injection hx with hx
    subst hx
    exact ⟨hg, rfl, rfl⟩

/-- the end of one: Go keeps the old address where nothing is left of the capacity -/
theorem IsRow.drop (h : IsRow k w A n c zs) {m : Nat} (hm : m ≤ n) : IsRow k w (if c = m then A else A.map (·.add m)) (n - m) (c - m) (zs.drop m) := by
  obtain ⟨h1, h2, h3, h4, h5⟩ := h
  refine ⟨by rw [List.length_drop]; omega, by omega, by omega, fun z hz => h4 z (List.mem_of_mem_drop hz), ?_⟩
  rcases h5 with ⟨rfl, rfl⟩ | ⟨x, rfl, hb, hx⟩
  · exact .inl ⟨by simp, by omega⟩
  · by_cases hcm : c = m
    · rw [if_pos hcm]
      exact .inr ⟨x, rfl, fun h0 => by omega, fun i hi => by omega⟩
    · rw [if_neg hcm]
      refine .inr ⟨x.add m, rfl, fun h0 => by rw [add_block]; exact hb (by omega), fun i hi => ?_⟩
      have e : (x.add m).add i = x.add (m + i) := by
        unfold Addr.add
        by_cases h1 : m = 0 <;> by_cases h2 : i = 0 <;> simp [h1, h2, Nat.add_assoc]
      rw [e, hx _ (by omega)]
      simp [List.getD]

theorem own_ge {B : Nat} {e : TypeId} {v : Value} {xs : List Value} (h : w.ownsRow B e 1 v n xs) : ∀ g, v.ownBlock = some g → B ≤ g := by
  rcases h.2 with ⟨rfl, _⟩ | ⟨g, cap, cur, rfl, hg, _⟩
  · intro g hg; cases hg
  · intro g' hg'
    have : g = g' := by injection hg'
    omega
theorem below_app {B : Nat} {e : TypeId} {v : Value} {xs : List Value} (h : w.ownsRow B e 1 v n xs) (hB : B ≤ w.heap.size) (hg : w.grownBy w' v.ownBlock) : Below B w w' :=
  (Below.refl B w).grown hg hB (own_ge h)
theorem own_at {B : Nat} {e : TypeId} {g cap : Nat} (h : w.ownsRow B e 1 (.slice (some ⟨g, 0, none⟩) n cap) n (zs.map (Value.int k))) {i : Nat} (hi : i < n) : w.cell? ⟨g, i, none⟩ = some (.int k (zs.getD i 0)) := by
  have hl : zs.length = n := by have := h.1; simpa using this
  rw [h.cellAt i (by omega)]
  simp [List.getElem?_map, List.getElem?_eq_getElem (show i < zs.length by omega), List.getD]

/-- the beginning of one -/
theorem IsRow.take (h : IsRow k w A n c zs) {m : Nat} (hm : m ≤ n) : IsRow k w A m c (zs.take m) := by
  obtain ⟨h1, h2, h3, h4, h5⟩ := h
  refine ⟨by rw [List.length_take]; omega, by omega, h3, fun z hz => h4 z (List.mem_of_mem_take hz), ?_⟩
  rcases h5 with h5 | ⟨x, e, hb, hx⟩
  · exact .inl h5
  · refine .inr ⟨x, e, hb, fun i hi => ?_⟩
    rw [hx i (by omega)]
    simp [List.getD, hi]
end

section
variable {P : Program} (w : World)

/-- append onto a row of the call's own, of whatever slice of integers -/
theorem run_app {B : Nat} {t ty e : TypeId} {i : TypeInfo} {z : Value} {bytes : Nat} {k : IntKind} (ht : P.underlying t = some (.slice e)) (hi : P.info? e = some i) (hz : i.zero = some z)
    (hsize : i.size = 1) (hby : i.bytes = bytes) (hzs : z.cells.size = 1)
    {v : Value} {zs : List Int} (hown : w.ownsRow B e 1 v zs.length (zs.map (Value.int k)))
    {A : Option Addr} {m c : Nat} {ys : List Int} (hr : IsRow k w A m c ys)
    (h63 : zs.length + m ≤ maxLen) (hbytes : (zs.length + m) * bytes ≤ 140737488355328) (hbase : B ≤ w.heap.size) :
    ∃ v' w', (Builtin.append_ #[t, t] ty #[v, .slice A m c]).run P w = .ok v' w' ∧ w'.ownsRow B e 1 v' (zs ++ ys).length ((zs ++ ys).map (Value.int k)) ∧ w.grownBy w' v.ownBlock ∧
      (v'.ownBlock = v.ownBlock ∨ v'.ownBlock = some w.heap.size) := by
  have hlen : (zs ++ ys).length = zs.length + m := by rw [List.length_append, hr.len]
  obtain ⟨hl, hmc, hcm, hwf, h5⟩ := hr
  rcases h5 with ⟨rfl, rfl⟩ | ⟨x, rfl, _, hx⟩
  · have hm : m = 0 := by omega
    subst hm
    have hy : ys = [] := List.eq_nil_of_length_eq_zero hl
    subst hy
    exact ⟨v, w, run_append_owned_none (P := P) w B t ty e i 1 ht hi v _ _ hown, by simpa using hown, World.grownBy.refl w _, .inl rfl⟩
  · have hcells : ∀ j u, (ys.map (Value.int k))[j]? = some u → w.cell? (x.add j) = some u := by
      intro j u hu
      rw [List.getElem?_map] at hu
      cases hj : ys[j]? with
      | none => rw [hj] at hu; simp at hu
      | some y =>
        rw [hj] at hu
        simp at hu
        subst hu
        have hjm : j < m := by
          have := (List.getElem?_eq_some_iff.1 hj).1
          omega
        rw [hx j hjm, List.getD, hj]
        rfl
    obtain ⟨v', w', hrun, h2, h3, _, h6⟩ := run_append_own_at (P := P) w B t ty e i z 1 bytes ht hi hz hsize hby hzs (by omega) v _ _ hown x m c (ys.map (Value.int k)) (by simp [hl]) hcells
      (by intro u hu; simp at hu; obtain ⟨y, _, rfl⟩ := hu; rfl) h63 hbytes hbase
    exact ⟨v', w', hrun, by rw [hlen, List.map_append]; exact h2, h3, h6⟩

theorem wp_app {o : Oper} {a : Act} {K : Act → World → Prop} {Q : Exit → Act → World → Prop} (s x : Operand) {t : TypeId}
    (ho : o.op = .call { callee := .builtin .append, args := #[s, x], argTypes := #[t, t] })
    (B : Nat) {e : TypeId} {i : TypeInfo} {z : Value} {bytes : Nat} {k : IntKind} (ht : P.underlying t = some (.slice e)) (hi : P.info? e = some i) (hz : i.zero = some z)
    (hsize : i.size = 1) (hby : i.bytes = bytes) (hzs : z.cells.size = 1)
    {v : Value} {zs : List Int} (hs : a.eval s = v) (hown : w.ownsRow B e 1 v zs.length (zs.map (Value.int k)))
    {A : Option Addr} {m c : Nat} {ys : List Int} (hx : a.eval x = .slice A m c) (hr : IsRow k w A m c ys)
    (h63 : zs.length + m ≤ maxLen) (hbytes : (zs.length + m) * bytes ≤ 140737488355328) (hbase : B ≤ w.heap.size)
    (h : ∀ v' w', w'.ownsRow B e 1 v' (zs ++ ys).length ((zs ++ ys).map (Value.int k)) → w.grownBy w' v.ownBlock → (v'.ownBlock = v.ownBlock ∨ v'.ownBlock = some w.heap.size) → K (a.put o.dst v') w') : o.wp P a w K Q := by
  obtain ⟨v', w', hrun, h2, h3, h4⟩ := run_app (P := P) w (ty := o.type) ht hi hz hsize hby hzs hown hr h63 hbytes hbase
  unfold Oper.wp execOp
  simp only [ho, resolve, invoke, builtin, Sem.run_bind, Sem.run_pure, Result.andThen_ok, List.map_toArray, List.map_cons, List.map_nil, hs, hx, hrun]
  exact h v' w' h2 h3 h4

theorem wpList_app {ops : Array Oper} {rest : List Oper} {o : Oper} {a : Act} {Q : Exit → Act → World → Prop} (hgd : o.guard = none) (s x : Operand) {t : TypeId}
    (ho : o.op = .call { callee := .builtin .append, args := #[s, x], argTypes := #[t, t] })
    (B : Nat) {e : TypeId} {i : TypeInfo} {z : Value} {bytes : Nat} {k : IntKind} (ht : P.underlying t = some (.slice e)) (hi : P.info? e = some i) (hz : i.zero = some z)
    (hsize : i.size = 1) (hby : i.bytes = bytes) (hzs : z.cells.size = 1)
    {v : Value} {zs : List Int} (hs : a.eval s = v) (hown : w.ownsRow B e 1 v zs.length (zs.map (Value.int k)))
    {A : Option Addr} {m c : Nat} {ys : List Int} (hx : a.eval x = .slice A m c) (hr : IsRow k w A m c ys)
    (h63 : zs.length + m ≤ maxLen) (hbytes : (zs.length + m) * bytes ≤ 140737488355328) (hbase : B ≤ w.heap.size)
    (h : ∀ v' w', w'.ownsRow B e 1 v' (zs ++ ys).length ((zs ++ ys).map (Value.int k)) → Below B w w' → w.grownBy w' v.ownBlock → (v'.ownBlock = v.ownBlock ∨ v'.ownBlock = some w.heap.size) → wpList P ops Q rest (a.put o.dst v') w') : wpList P ops Q (o :: rest) a w :=
  wpList_plain hgd fun _ hK => wp_app w s x ho B ht hi hz hsize hby hzs hs hown hx hr h63 hbytes hbase fun v' w' h2 h3 h4 => hK _ _ (h v' w' h2 (below_app hown hbase h3) h3 h4)
end

/-- the same as a step of a region that draws its order -/
theorem step_app {P : Program} (w : World) {ops : Array Oper} {o : Oper} {a : Act} {K : Act → World → Prop} {Q : Exit → Act → World → Prop} {E : Prop} (hgd : o.guard = none) (s x : Operand) {t : TypeId}
    (ho : o.op = .call { callee := .builtin .append, args := #[s, x], argTypes := #[t, t] })
    (B : Nat) {e : TypeId} {i : TypeInfo} {z : Value} {bytes : Nat} {k : IntKind} (ht : P.underlying t = some (.slice e)) (hi : P.info? e = some i) (hz : i.zero = some z)
    (hsize : i.size = 1) (hby : i.bytes = bytes) (hzs : z.cells.size = 1)
    {v : Value} {zs : List Int} {nz : Nat} (hnz : zs.length = nz) (hs : a.eval s = v) (hown : w.ownsRow B e 1 v nz (zs.map (Value.int k)))
    {A : Option Addr} {m c : Nat} {ys : List Int} (hx : a.eval x = .slice A m c) (hr : IsRow k w A m c ys)
    (h63 : nz + m ≤ maxLen) (hbytes : (nz + m) * bytes ≤ 140737488355328) (hbase : B ≤ w.heap.size)
    (h : ∀ A' c' w', w'.ownsRow B e 1 (.slice A' (nz + m) c') (nz + m) ((zs ++ ys).map (Value.int k)) → Below B w w' → K (a.put o.dst (.slice A' (nz + m) c')) w') :
    if Region.wanted o (yielded ops a.tmps) = true then Oper.wp P o a w K Q else E := by
  have hw : Region.wanted o (yielded ops a.tmps) = true := by simp [Region.wanted, hgd]
  rw [if_pos hw]
  subst hnz
  have hlen : (zs ++ ys).length = zs.length + m := by rw [List.length_append, hr.len]
  refine wp_app w s x ho B ht hi hz hsize hby hzs hs hown hx hr h63 hbytes hbase fun v' w' h2 h3 h4 => ?_
  rw [hlen] at h2
  obtain ⟨A', c', rfl, _, _⟩ := own_form h2
  exact h A' c' w' h2 (below_app hown hbase h3)

section
variable {P : Program} (w : World)
/-- the same where something is there behind it: the value's shape is known -/
theorem wpList_app_pos {ops : Array Oper} {rest : List Oper} {o : Oper} {a : Act} {Q : Exit → Act → World → Prop} (hgd : o.guard = none) (s x : Operand) {t : TypeId}
    (ho : o.op = .call { callee := .builtin .append, args := #[s, x], argTypes := #[t, t] })
    (B : Nat) {e : TypeId} {i : TypeInfo} {z : Value} {bytes : Nat} {k : IntKind} (ht : P.underlying t = some (.slice e)) (hi : P.info? e = some i) (hz : i.zero = some z)
    (hsize : i.size = 1) (hby : i.bytes = bytes) (hzs : z.cells.size = 1)
    {v : Value} {zs : List Int} {nz : Nat} (hnz : zs.length = nz) (hs : a.eval s = v) (hown : w.ownsRow B e 1 v nz (zs.map (Value.int k)))
    {A : Option Addr} {m c : Nat} {ys : List Int} (hx : a.eval x = .slice A m c) (hr : IsRow k w A m c ys)
    (h63 : nz + m ≤ maxLen) (hbytes : (nz + m) * bytes ≤ 140737488355328) (hbase : B ≤ w.heap.size) (hpos : 0 < nz + m)
    (h : ∀ g cap w', w'.ownsRow B e 1 (.slice (some ⟨g, 0, none⟩) (nz + m) cap) (nz + m) ((zs ++ ys).map (Value.int k)) → B ≤ g → g < w'.heap.size → nz + m ≤ cap → cap ≤ 9223372036854775807 → Below B w w' → w.grownBy w' v.ownBlock →
      (v.ownBlock = some g ∨ g = w.heap.size) → wpList P ops Q rest (a.put o.dst (.slice (some ⟨g, 0, none⟩) (nz + m) cap)) w') : wpList P ops Q (o :: rest) a w := by
  subst hnz
  have hlen : (zs ++ ys).length = zs.length + m := by rw [List.length_append, hr.len]
  refine wpList_app w hgd s x ho B ht hi hz hsize hby hzs hs hown hx hr h63 hbytes hbase fun v' w' h2 hb h3 h4 => ?_
  rw [hlen] at h2
  rcases h2.2 with ⟨_, h0⟩ | ⟨g, cap, cur, rfl, hg, hh, hnc, hcm, hcs, htk⟩
  · omega
  · refine h g cap w' h2 hg ?_ hnc hcm hb h3 ?_
    · rcases Nat.lt_or_ge g w'.heap.size with h' | h'
      · exact h'
      · rw [Array.getElem?_eq_none h'] at hh; cases hh
    · rcases h4 with h4 | h4
      · left; rw [← h4]; rfl
      · right; simpa [Value.ownBlock] using h4
end

/-- a new row, written out -/
theorem isRow_lit (w : World) (e : TypeId) (k : IntKind) (zs : List Int) (n : Nat) (hn : n = zs.length) (hm : n ≤ maxLen) (hw : ∀ z ∈ zs, (Lit.int k z).wf = true) :
    IsRow k (w.alloc (.cells (zs.map (Value.int k)).toArray e)) (some ⟨w.heap.size, 0, none⟩) n n zs := by
  have h := World.ownsRow_lit (base := w.heap.size) (e := e) (size := 1) w (zs.map (Value.int k)).toArray n (Nat.le_refl _) hm (by simp [hn])
  exact isRow_own (by simpa using h) hw

theorem own_lit (w : World) (e : TypeId) (k : IntKind) (B : Nat) (hB : B ≤ w.heap.size) (zs : List Int) (hm : zs.length ≤ maxLen) :
    (w.alloc (.cells (zs.map (Value.int k)).toArray e)).ownsRow B e 1 (.slice (some ⟨w.heap.size, 0, none⟩) zs.length zs.length) zs.length (zs.map (Value.int k)) := by
  have h := World.ownsRow_lit (base := B) (e := e) (size := 1) w (zs.map (Value.int k)).toArray zs.length hB hm (by simp)
  simpa using h

end Go.Proofs.YtakgebbeknfplaaGreat
