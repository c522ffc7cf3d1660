/-
  PLAIN: a key's words, as bytes one behind the other; loads at any address, a slice of bytes that came in, stores into the middle of a block.
-/
import Derived.Test.YthcjemcimfbnhaaAeH
import Derived.Deep.MidRow
namespace Go.Proofs.Ythcjemcimfbnhaa
open Go.RowKit
set_option linter.unusedVariables false

def at' (l : List Nat) (i : Nat) : Nat := l[i]?.getD 0
/-- what is laid over the word k back -/
def nx (k : Nat) (E : List Nat) (i : Nat) : List Nat :=
  if i % k = 0 then [sbox (at' E (4 * (i - 1) + 1)) ^^^ gpow 2 (i / k - 1), sbox (at' E (4 * (i - 1) + 2)), sbox (at' E (4 * (i - 1) + 3)), sbox (at' E (4 * (i - 1)))]
  else if k = 8 ∧ i % 8 = 4 then [sbox (at' E (4 * (i - 1))), sbox (at' E (4 * (i - 1) + 1)), sbox (at' E (4 * (i - 1) + 2)), sbox (at' E (4 * (i - 1) + 3))]
  else [at' E (4 * (i - 1)), at' E (4 * (i - 1) + 1), at' E (4 * (i - 1) + 2), at' E (4 * (i - 1) + 3)]
theorem nx_len (k : Nat) (E : List Nat) (i : Nat) : (nx k E i).length = 4 := by unfold nx; split <;> (try split) <;> rfl
def nextWord (k : Nat) (E : List Nat) (i : Nat) : List Nat := (List.range 4).map fun p => at' (nx k E i) p ^^^ at' E (4 * (i - k) + p)
/-- so many words behind the key's own -/
def wordsOf (k : Nat) (key : List Nat) : Nat → List Nat
  | 0 => key
  | n + 1 => wordsOf k key n ++ nextWord k (wordsOf k key n) (k + n)
/-- all words of a key of k words -/
def wordsAll (k : Nat) (key : List Nat) : List Nat := wordsOf k key (4 * (k + 7) - k)
theorem wordsOf_len (k : Nat) (key : List Nat) (h : key.length = 4 * k) : ∀ n, (wordsOf k key n).length = 4 * (k + n)
  | 0 => by simp [wordsOf, h]
  | n + 1 => by simp [wordsOf, wordsOf_len k key h n, nextWord]; omega
theorem wordsOf_pre (k : Nat) (key : List Nat) (h : key.length = 4 * k) (m : Nat) : ∀ n j, m < 4 * (k + n) → at' (wordsOf k key (n + j)) m = at' (wordsOf k key n) m
  | n, 0, _ => rfl
  | n, j + 1, hm => by
    have ih := wordsOf_pre k key h m n j hm
    rw [← ih]
    show at' (wordsOf k key (n + j) ++ _) m = _
    unfold at'
    rw [List.getElem?_append_left (by rw [wordsOf_len k key h]; omega)]
structure Exp (k : Nat) (key E : List Nat) : Prop where
  len : E.length = 4 * (4 * (k + 7))
  byt : Byt E
  own : ∀ m, m < 4 * k → at' E m = at' key m
  next : ∀ i, k ≤ i → i < 4 * (k + 7) → ∀ p, p < 4 → at' E (4 * i + p) = at' (nx k E i) p ^^^ at' E (4 * (i - k) + p)
theorem nx_eq (k : Nat) (E F : List Nat) (i : Nat) (h : ∀ m, m < 4 * i → at' E m = at' F m) (hi : 0 < i) : nx k E i = nx k F i := by
  unfold nx
  rw [h _ (by omega), h _ (by omega), h _ (by omega), h _ (by omega)]
theorem gpow_byt {n : Nat} (h : n < 16) : gpow 2 n < 256 := gpow_lt n h
theorem Byt.at' {l : List Nat} (h : Byt l) (k : Nat) : at' l k < 256 := h.get k
theorem nx_byt {k : Nat} {E : List Nat} {i : Nat} (hE : Byt E) (hk : k = 4 ∨ k = 8) (hi : i < 4 * (k + 7)) : Byt (nx k E i) := by
  have s := fun m => sbox_lt _ (hE.at' m)
  have h16 : i / k - 1 < 16 := by rcases hk with rfl | rfl <;> omega
  intro x hx
  unfold nx at hx
  split at hx
  · simp only [List.mem_cons, List.not_mem_nil, or_false] at hx
    rcases hx with rfl | rfl | rfl | rfl
    · exact xor_lt (s _) (gpow_byt h16)
    all_goals exact s _
  · split at hx
    · simp only [List.mem_cons, List.not_mem_nil, or_false] at hx
      rcases hx with rfl | rfl | rfl | rfl <;> exact s _
    · simp only [List.mem_cons, List.not_mem_nil, or_false] at hx
      rcases hx with rfl | rfl | rfl | rfl <;> exact hE.at' _
theorem wordsOf_byt {k : Nat} {key : List Nat} (hk : k = 4 ∨ k = 8) (hb : Byt key) : ∀ n, k + n ≤ 4 * (k + 7) → Byt (wordsOf k key n)
  | 0, _ => hb
  | n + 1, hn => by
    have ih := wordsOf_byt hk hb n (by omega)
    intro x hx
    rcases List.mem_append.1 hx with hx | hx
    · exact ih x hx
    · simp only [nextWord, List.mem_map, List.mem_range] at hx
      obtain ⟨p, _, rfl⟩ := hx
      exact xor_lt ((nx_byt ih hk (by omega)).at' p) (ih.at' _)
theorem wordsAll_exp {k : Nat} {key : List Nat} (hk : k = 4 ∨ k = 8) (h : key.length = 4 * k) (hb : Byt key) : Exp k key (wordsAll k key) := by
  have hk1 : 0 < k := by omega
  refine ⟨by rw [wordsAll, wordsOf_len k key h]; omega, wordsOf_byt hk hb _ (by omega), ?_, ?_⟩
  · intro m hm
    have := wordsOf_pre k key h m 0 (4 * (k + 7) - k) (by omega)
    rw [Nat.zero_add] at this
    exact this
  · intro i h0 h1 p hp
    have e1 : ∀ m, m < 4 * i → at' (wordsAll k key) m = at' (wordsOf k key (i - k)) m := by
      intro m hm
      have := wordsOf_pre k key h m (i - k) (4 * (k + 7) - k - (i - k)) (by omega)
      rw [show i - k + (4 * (k + 7) - k - (i - k)) = 4 * (k + 7) - k from by omega] at this
      exact this
    have e2 : at' (wordsAll k key) (4 * i + p) = at' (wordsOf k key (i - k + 1)) (4 * i + p) := by
      have := wordsOf_pre k key h (4 * i + p) (i - k + 1) (4 * (k + 7) - k - (i - k + 1)) (by omega)
      rw [show i - k + 1 + (4 * (k + 7) - k - (i - k + 1)) = 4 * (k + 7) - k from by omega] at this
      exact this
    rw [e2, nx_eq k _ _ i e1 (by omega), e1 _ (by omega)]
    have hl := wordsOf_len k key h (i - k)
    show at' (wordsOf k key (i - k) ++ nextWord k (wordsOf k key (i - k)) (k + (i - k))) (4 * i + p) = _
    rw [show k + (i - k) = i from by omega]
    generalize wordsOf k key (i - k) = F at hl
    have : at' (F ++ nextWord k F i) (4 * i + p) = at' (nextWord k F i) p := by
      unfold at'
      rw [List.getElem?_append_right (by omega), show 4 * i + p - F.length = p from by omega]
    rw [this]
    simp [nextWord, at', hp]

/-! memory -/
theorem bts_at (l : List Nat) (o : Nat) (c : List Nat) (h : o + c.length ≤ l.length) (hc : ∀ i, i < c.length → at' c i = at' l (o + i)) :
    ∀ (i : Nat) (v : Value), (c.map (fun n : Nat => Value.int .u8 (n : Int)))[i]? = some v → i < c.length ∧ v = .int .u8 (l[o + i]?.getD 0 : Nat) := by
  intro i v hv
  rw [List.getElem?_map] at hv
  cases hi : c[i]? with
  | none => rw [hi] at hv; simp at hv
  | some x =>
    rw [hi] at hv
    have hlt := (List.getElem?_eq_some_iff.1 hi).1
    have := hc i hlt
    unfold at' at this
    rw [hi] at this
    simp only [Option.getD_some] at this
    simp at hv
    exact ⟨hlt, by rw [← this]; exact hv.symm⟩
/-- a slice of bytes that came in -/
def IsB (w : World) (A : Option Addr) (n c : Nat) (l : List Nat) : Prop := IsRow .u8 w A n c (l.map fun x : Nat => (x : Int)) ∧ Byt l
theorem IsB.len {w : World} {A : Option Addr} {n c : Nat} {l : List Nat} (h : IsB w A n c l) : l.length = n := by simpa using h.1.len
theorem IsB.cell {w : World} {A : Option Addr} {n c : Nat} {l : List Nat} (h : IsB w A n c l) (hn : 0 < n) : ∃ x, A = some x ∧ x.block < w.heap.size ∧ ∀ i, i < n → w.cell? (x.add i) = some (.int .u8 (at' l i : Nat)) := by
  obtain ⟨x, e, hb, hx⟩ := h.1.at hn
  refine ⟨x, e, hb, fun i hi => ?_⟩
  have hl := h.len
  rw [hx i hi]
  simp [List.getD, at', List.getElem?_eq_getElem (show i < l.length by omega)]
theorem IsB.below {w w' : World} {A : Option Addr} {n c : Nat} {l : List Nat} (h : IsB w A n c l) (hb : Below w.heap.size w w') : IsB w' A n c l := ⟨h.1.below hb, h.2⟩
theorem byt_of_row {w : World} {A : Option Addr} {n c : Nat} {zs : List Int} (h : IsRow .u8 w A n c zs) : ∃ l : List Nat, zs = l.map (fun x : Nat => (x : Int)) ∧ Byt l := by
  have hw : ∀ z ∈ zs, 0 ≤ z ∧ z < 256 := by
    intro z hz
    have := h.wf z hz
    simp only [Lit.wf, Bool.and_eq_true, decide_eq_true_eq] at this
    have e1 : IntKind.u8.min = 0 := rfl
    have e2 : IntKind.u8.max = 255 := rfl
    omega
  refine ⟨zs.map Int.toNat, ?_, ?_⟩
  · rw [List.map_map]
    refine (List.map_id' _).symm.trans (List.map_congr_left fun z hz => ?_)
    simp only [Function.comp]
    have := hw z hz
    omega
  · intro x hx
    obtain ⟨z, hz, rfl⟩ := List.mem_map.1 hx
    have := hw z hz
    omega

section
variable {P : Program}
/-- the variable of an array's type that lies at any address is read -/
theorem wp_loadAny {op : Oper} {a : Act} {w : World} {K : Act → World → Prop} {Q : Exit → Act → World → Prop} (ty : TypeId) (x : Operand) (ho : op.op = .load ty x)
    (p : Addr) (hx : a.eval x = .pointer (some p)) (cs : List Value) (d : TypeDesc) (hc : ∀ j v, cs[j]? = some v → w.cell? (p.add j) = some v)
    (hu : P.underlying ty = some d) (hd : d.isRow = true) (hi : (P.info? ty).map (·.size) = some cs.length)
    (h : K (a.put op.dst (.agg cs.toArray)) w) : op.wp P a w K Q := by
  have hrun : (loadVar ty p).run P w = .ok (.agg cs.toArray) w := by
    have hl : (loadCells p cs.length).run P w = .ok cs.toArray w := run_loadCells_list (P := P) w p cs hc
    cases hq : P.info? ty with
    | none => simp [hq] at hi
    | some i =>
      have hs : i.size = cs.length := by simpa [hq] using hi
      have hagg : (isAgg ty).run P w = .ok true w := by
        unfold isAgg
        rw [Sem.run_bind, run_underlying hu w]
        cases d <;> simp_all
      simp [loadVar, Sem.run_bind, hagg, sizeOf, typeInfo, hq, hs, hl]
  unfold Oper.wp execOp
  simp only [ho, hx, Instr.loadAt, Instr.sureAddr, Sem.run_bind, Sem.run_pure, Result.andThen_ok, hrun]
  exact h
theorem wpList_loadAny {ops : Array Oper} {rest : List Oper} {op : Oper} {a : Act} {w : World} {Q : Exit → Act → World → Prop} (hgd : op.guard = none) (ty : TypeId) (x : Operand) (ho : op.op = .load ty x)
    (p : Addr) (hx : a.eval x = .pointer (some p)) (cs : List Value) (d : TypeDesc) (hc : ∀ j v, cs[j]? = some v → w.cell? (p.add j) = some v)
    (hu : P.underlying ty = some d) (hd : d.isRow = true) (hi : (P.info? ty).map (·.size) = some cs.length)
    (h : wpList P ops Q rest (a.put op.dst (.agg cs.toArray)) w) : wpList P ops Q (op :: rest) a w :=
  wpList_plain hgd fun _ hK => wp_loadAny ty x ho p hx cs d hc hu hd hi (hK _ _ h)
end

/-- laid over, from a place on -/
theorem setCells_bk (w : World) (b : Nat) (t : TypeId) : ∀ (c : List Nat) (o : Nat) (l : List Nat) (w : World), Bk w b t l → Bk (w.setCells b o (c.map (fun n : Nat => Value.int .u8 (n : Int)))) b t (c.zipIdx.foldl (fun l p => l.set (o + p.2) p.1) l)
  | [], o, l, w, h => h
  | x :: r, o, l, w, h => by
    have := setCells_bk w b t r (o + 1) (l.set o x) _ (h.set o x)
    rw [List.map_cons, World.setCells]
    have e : (x :: r).zipIdx.foldl (fun l p => l.set (o + p.2) p.1) l = r.zipIdx.foldl (fun l p => l.set (o + 1 + p.2) p.1) (l.set o x) := by
      rw [List.zipIdx_cons, List.foldl_cons, Nat.zero_add, List.zipIdx_succ, List.foldl_map]
      congr 1
      funext l p
      rw [Nat.add_assoc, Nat.add_comm 1 p.2]
    rw [e]
    exact this
theorem setCells_upd (w : World) (b : Nat) (t : TypeId) (f : Nat → Nat) (s : List Nat) : ∀ (c : List Nat) (o : Nat) (w : World), Bk w b t (upd f s o) → o + c.length ≤ s.length → (∀ i, i < c.length → at' c i = f (o + i)) →
    Bk (w.setCells b o (c.map (fun n : Nat => Value.int .u8 (n : Int)))) b t (upd f s (o + c.length))
  | [], o, w, h, _, _ => h
  | x :: r, o, w, h, hl, hc => by
    rw [List.map_cons, World.setCells]
    have hx : x = f o := hc 0 (by simp)
    subst hx
    have h1 := h.set o (f o)
    rw [upd_step f s o (by simp at hl; omega)] at h1
    have := setCells_upd w b t f s r (o + 1) _ h1 (by simp at hl; omega) (fun i hi => by have := hc (i + 1) (by simp; omega); rw [show o + 1 + i = o + (i + 1) from by omega, ← this]; simp [at'])
    rw [show o + (f o :: r).length = o + 1 + r.length from by simp; omega]
    exact this
theorem below_setCells {B b : Nat} {w0 : World} (hb : B ≤ b) : ∀ (vs : List Value) (o : Nat) (w : World), Below B w0 w → Below B w0 (w.setCells b o vs)
  | [], o, w, h => h
  | v :: r, o, w, h => below_setCells hb r (o + 1) _ (h.setCell hb v)

end Go.Proofs.Ythcjemcimfbnhaa
