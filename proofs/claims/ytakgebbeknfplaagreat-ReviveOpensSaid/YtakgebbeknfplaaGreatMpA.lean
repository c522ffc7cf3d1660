/-
  MAPS IN MEMORY, READ AS LISTS OF THEIR ENTRIES, whatever the keys' type: lookup, store, delete, length, clear, range.
-/
import Derived.Test.YtakgebbeknfplaaGreatMem
import Derived.Maps.RangeWalk
import Derived.DeepKeys4
namespace Go.Proofs.YtakgebbeknfplaaGreat
open Go.RowKit Go.MapKept
open Go.ChangeMaps (setBlock heap_setBlock_same heap_setBlock_other modify_eq_set)
set_option linter.unusedVariables false

/-- keys of a type of the model's, as a type of Lean's -/
structure KeyK {κ : Type} (P : Program) (k : TypeId) (kv : κ → Value) (ok : κ → Prop) : Prop where
  keyed : Maps.Keyed P k
  of : ∀ {x}, ok x → ∃ l, keyOf P k (kv x) = some l
  inj : ∀ {x y}, kv x = kv y → x = y

section
variable {P : Program} {k e t : TypeId} {κ : Type} {kv : κ → Value} {ok : κ → Prop} {w w' : World} {b : Nat} {l : List (κ × Value)} {x : κ}

def prs (kv : κ → Value) (l : List (κ × Value)) : List (Value × Value) := l.map fun p => (kv p.1, p.2)
def lookL [DecidableEq κ] (x : κ) (l : List (κ × Value)) : Option Value := (l.find? fun p => decide (p.1 = x)).map (·.2)
def dropL [DecidableEq κ] (x : κ) (l : List (κ × Value)) : List (κ × Value) := l.filter fun p => !decide (p.1 = x)
def putL [DecidableEq κ] (x : κ) (v : Value) (l : List (κ × Value)) : List (κ × Value) := if (lookL x l).isSome then l.map fun p => if p.1 = x then (x, v) else p else l ++ [(x, v)]
theorem lookL_none [DecidableEq κ] : lookL x l = none ↔ ∀ p ∈ l, p.1 ≠ x := by
  unfold lookL
  rw [Option.map_eq_none_iff, List.find?_eq_none]
  simp
theorem lookL_mem [DecidableEq κ] {v : Value} (h : lookL x l = some v) : (x, v) ∈ l := by
  unfold lookL at h
  obtain ⟨p, hp, rfl⟩ := Option.map_eq_some_iff.1 h
  have h1 := List.mem_of_find?_eq_some hp
  have h2 := List.find?_some hp
  simp only [decide_eq_true_eq] at h2
  subst h2
  exact h1
theorem lookL_of [DecidableEq κ] {v : Value} (hn : (l.map (·.1)).Nodup) (h : (x, v) ∈ l) : lookL x l = some v := by
  unfold lookL
  induction l with
  | nil => cases h
  | cons p r ih =>
    simp only [List.map_cons, List.nodup_cons] at hn
    rcases List.mem_cons.1 h with rfl | h'
    · simp
    · have hne : p.1 ≠ x := fun e1 => hn.1 (by rw [e1]; exact List.mem_map.2 ⟨_, h', rfl⟩)
      rw [List.find?_cons_of_neg (by simpa using hne)]
      exact ih hn.2 h'

/-- A BLOCK THAT IS A MAP WITH JUST THESE ENTRIES, in the order in which their keys came -/
def MapB (kv : κ → Value) (ok : κ → Prop) (w : World) (b : Nat) (l : List (κ × Value)) : Prop :=
  ∃ es clock, w.heap[b]? = some (.map es clock) ∧ Stamped es clock ∧ es.toList.map (fun e => (e.key, e.val)) = prs kv l ∧ ∀ p ∈ l, ok p.1
theorem MapB.lt (h : MapB kv ok w b l) : b < w.heap.size := by
  obtain ⟨es, clock, h1, _⟩ := h
  exact (Array.getElem?_eq_some_iff.1 h1).1
theorem MapB.oks (h : MapB kv ok w b l) : ∀ p ∈ l, ok p.1 := by
  obtain ⟨es, clock, _, _, _, h4⟩ := h
  exact h4
theorem MapB.same (h : MapB kv ok w b l) (hh : w'.heap[b]? = w.heap[b]?) : MapB kv ok w' b l := by
  obtain ⟨es, clock, h1, h2⟩ := h
  exact ⟨es, clock, hh.trans h1, h2⟩
theorem MapB.low {C : Nat} (h : MapB kv ok w b l) (hb : Below C w w') (hC : b < C) : MapB kv ok w' b l := h.same (hb.block b hC)
theorem MapB.ab (h : MapB kv ok w b l) (hb : Below w.heap.size w w') : MapB kv ok w' b l := h.low hb h.lt
theorem MapB.grown {row : Option Nat} (h : MapB kv ok w b l) (hg : w.grownBy w' row) (hr : row ≠ some b) : MapB kv ok w' b l := h.same (hg.block b h.lt (fun e => hr e.symm))
theorem MapB.alloc (h : MapB kv ok w b l) (o : Obj) : MapB kv ok (w.alloc o) b l := h.ab ((Below.refl _ _).alloc (Nat.le_refl _) _)
theorem MapB.new (kv : κ → Value) (ok : κ → Prop) (w : World) : MapB kv ok (w.alloc (.map #[] 0)) w.heap.size [] :=
  ⟨#[], 0, heap_alloc_new w _, stamped_empty 0, rfl, fun p hp => by cases hp⟩
theorem prs_len {es : Array MapEntry} (h : es.toList.map (fun e => (e.key, e.val)) = prs kv l) : es.size = l.length := by
  have := congrArg List.length h
  simpa [prs] using this
theorem prs_at {es : Array MapEntry} (h : es.toList.map (fun e => (e.key, e.val)) = prs kv l) (j : Nat) : (es.toList[j]?).map (fun e => (e.key, e.val)) = (l[j]?).map fun p => (kv p.1, p.2) := by
  rw [← List.getElem?_map, h]
  simp [prs]
theorem prs_mem {es : Array MapEntry} (h : es.toList.map (fun e => (e.key, e.val)) = prs kv l) {y : MapEntry} (hy : y ∈ es.toList) : ∃ p ∈ l, y.key = kv p.1 ∧ y.val = p.2 := by
  have h1 : (y.key, y.val) ∈ es.toList.map (fun e => (e.key, e.val)) := List.mem_map.2 ⟨y, hy, rfl⟩
  rw [h] at h1
  obtain ⟨p, hp, he⟩ := List.mem_map.1 h1
  simp only [Prod.mk.injEq] at he
  exact ⟨p, hp, he.1.symm, he.2.symm⟩
theorem prs_mem' {es : Array MapEntry} (h : es.toList.map (fun e => (e.key, e.val)) = prs kv l) {p : κ × Value} (hp : p ∈ l) : ∃ y ∈ es.toList, y.key = kv p.1 ∧ y.val = p.2 := by
  have h1 : (kv p.1, p.2) ∈ prs kv l := List.mem_map.2 ⟨p, hp, rfl⟩
  rw [← h] at h1
  obtain ⟨y, hy, he⟩ := List.mem_map.1 h1
  simp only [Prod.mk.injEq] at he
  exact ⟨y, hy, he.1, he.2⟩
theorem prs_keys {es : Array MapEntry} (K : KeyK P k kv ok) (h : es.toList.map (fun e => (e.key, e.val)) = prs kv l) (hok : ∀ p ∈ l, ok p.1) : ∀ y ∈ es.toList, ∃ kl, keyOf P k y.key = some kl := fun y hy => by
  obtain ⟨p, hp, hk, _⟩ := prs_mem h hy
  rw [hk]
  exact K.of (hok p hp)
theorem MapB.nodup (K : KeyK P k kv ok) (h : MapB kv ok w b l) : (l.map (·.1)).Nodup := by
  obtain ⟨es, clock, _, h2, h3, _⟩ := h
  have h4 := ((stamped_iff es clock).1 h2).2.2
  have h5 : (es.toList.map (fun e => (e.key, e.val))).Pairwise (fun p q => p.1 ≠ q.1) := List.pairwise_map.2 h4
  rw [h3] at h5
  have h6 := List.pairwise_map.1 h5
  exact List.pairwise_map.2 (h6.imp fun hne e1 => hne (by rw [e1]))
/-- which entry is found -/
theorem find_at [DecidableEq κ] (K : KeyK P k kv ok) {es : Array MapEntry} (w : World) (h : es.toList.map (fun e => (e.key, e.val)) = prs kv l) (hok : ∀ p ∈ l, ok p.1) (hx : ok x) (hn : (l.map (·.1)).Nodup) :
    ((Instr.findKey k (kv x) es.toList).run P w = .ok none w ∧ lookL x l = none ∧ ∀ y ∈ es.toList, y.key ≠ kv x) ∨ ∃ j e0, (Instr.findKey k (kv x) es.toList).run P w = .ok (some (j, e0.val)) w ∧ es.toList[j]? = some e0 ∧ e0.key = kv x ∧ l[j]? = some (x, e0.val) ∧ lookL x l = some e0.val := by
  obtain ⟨kl, hkl⟩ := K.of hx
  rcases K.keyed.find w hkl es.toList (prs_keys K h hok) with ⟨h1, h2⟩ | ⟨j, e0, h1, h2, h3⟩
  · refine .inl ⟨h1, lookL_none.2 fun p hp e1 => ?_, h2⟩
    obtain ⟨y, hy, hk, _⟩ := prs_mem' h hp
    exact h2 y hy (by rw [hk, e1])
  · have h4 := prs_at h j
    rw [h2] at h4
    cases hl : l[j]? with
    | none => rw [hl] at h4; simp at h4
    | some p =>
      rw [hl] at h4
      simp only [Option.map_some, Option.some.injEq, Prod.mk.injEq] at h4
      have hpx : p.1 = x := K.inj (h4.1.symm.trans h3)
      have hp2 : p = (x, e0.val) := by rw [← hpx, h4.2]
      exact .inr ⟨j, e0, h1, h2, h3, hl.trans (by rw [hp2]), lookL_of hn (by rw [← hp2]; exact List.mem_of_getElem? hl)⟩
theorem MapB.look_some [DecidableEq κ] (K : KeyK P k kv ok) (ht : P.underlying t = some (.map k e)) (h : MapB kv ok w b l) (hx : ok x) {v : Value} (hv : lookL x l = some v) (c : Bool) :
    (Instr.lookup t (.map (some b)) (kv x) c).run P w = .ok (if c then .tuple #[v, .bool true] else v) w := by
  have hn := h.nodup K
  obtain ⟨es, clock, h1, h2, h3, h4⟩ := h
  obtain ⟨kl, hkl⟩ := K.of hx
  rcases find_at K w h3 h4 hx hn with ⟨hr, hl, _⟩ | ⟨j, e0, hr, _, _, _, hl⟩
  · rw [hl] at hv; cases hv
  · rw [hl] at hv
    injection hv with hv
    subst hv
    simp [Instr.lookup, run_underlying ht, MapKept.run_getObj_map h1, K.keyed.check w _ hkl, hr, Result.andThen]
theorem MapB.look_none [DecidableEq κ] (K : KeyK P k kv ok) (ht : P.underlying t = some (.map k e)) (h : MapB kv ok w b l) (hx : ok x) (hv : lookL x l = none) {z : Value} (hz : (zeroValue e).run P w = .ok z w) (c : Bool) :
    (Instr.lookup t (.map (some b)) (kv x) c).run P w = .ok (if c then .tuple #[z, .bool false] else z) w := by
  have hn := h.nodup K
  obtain ⟨es, clock, h1, h2, h3, h4⟩ := h
  obtain ⟨kl, hkl⟩ := K.of hx
  rcases find_at K w h3 h4 hx hn with ⟨hr, hl, _⟩ | ⟨j, e0, hr, _, _, _, hl⟩
  · simp [Instr.lookup, run_underlying ht, MapKept.run_getObj_map h1, K.keyed.check w _ hkl, hr, hz, Result.andThen]
  · rw [hl] at hv; cases hv
/-- of a map that is not there nothing is found -/
theorem look_nil (K : KeyK P k kv ok) (ht : P.underlying t = some (.map k e)) (hx : ok x) {z : Value} (hz : (zeroValue e).run P w = .ok z w) (c : Bool) :
    (Instr.lookup t (.map none) (kv x) c).run P w = .ok (if c then .tuple #[z, .bool false] else z) w := by
  obtain ⟨kl, hkl⟩ := K.of hx
  exact Maps.look_nil c K.keyed ht hz hkl
theorem MapB.len (ht : P.underlying t = some (.map k e)) (h : MapB kv ok w b l) (ty : TypeId) : (Builtin.len_ #[t] ty #[.map (some b)]).run P w = .ok (.int .i64 (l.length : Int)) w := by
  obtain ⟨es, clock, h1, h2, h3, h4⟩ := h
  have := prs_len h3
  simp [Builtin.len_, run_underlying ht, MapKept.run_getObj_map h1, Result.andThen, goInt, this]
theorem grown_set {es : Array MapEntry} {clock : Nat} (hb : w.heap[b]? = some (.map es clock)) (o : Obj) : w.grownBy (setBlock w b o) (some b) :=
  ⟨rfl, rfl, rfl, by simp [setBlock], fun i _ hi => heap_setBlock_other hb o (fun e1 => hi (by rw [e1]))⟩
theorem below_set {B : Nat} {a : World} (h : Below B a w) {es : Array MapEntry} {clock : Nat} (hb : w.heap[b]? = some (.map es clock)) (hB : B ≤ b) (o : Obj) : Below B a (setBlock w b o) :=
  h.trans ⟨rfl, rfl, rfl, by simp [setBlock], fun i hi => heap_setBlock_other hb o (by omega)⟩
/-- what one store does -/
theorem MapB.put [DecidableEq κ] (K : KeyK P k kv ok) (ht : P.underlying t = some (.map k e)) (h : MapB kv ok w b l) (hx : ok x) (v : Value) :
    ∃ w', (Instr.mapUpdate t (.map (some b)) (kv x) v).run P w = .ok () w' ∧ MapB kv ok w' b (putL x v l) ∧ w.grownBy w' (some b) ∧ w'.heap.size = w.heap.size ∧ ∀ (B : Nat) (a : World), Below B a w → B ≤ b → Below B a w' := by
  have hn := h.nodup K
  obtain ⟨es, clock, h1, h2, h3, h4⟩ := h
  obtain ⟨kl, hkl⟩ := K.of hx
  rcases find_at K w h3 h4 hx hn with ⟨hr, hl, hne⟩ | ⟨j, e0, hr, hj, hk0, hlj, hl⟩
  · refine ⟨setBlock w b (.map (es.push ⟨kv x, v, clock⟩) (clock + 1)), ?_, ⟨_, _, heap_setBlock_same h1 _, stamped_push h2 hne, ?_, ?_⟩, grown_set h1 _, by simp [setBlock], fun B a hb hB => below_set hb h1 hB _⟩
    · simp [Instr.mapUpdate, run_underlying ht, MapKept.run_getObj_map h1, K.keyed.check w false hkl, hr, MapKept.run_setObj_map _ h1, Result.andThen, setBlock]
    · simp [putL, hl, prs, h3]
    · intro p hp
      simp only [putL, hl, Option.isSome_none, Bool.false_eq_true, if_false, List.mem_append, List.mem_singleton] at hp
      rcases hp with hp | rfl
      · exact h4 p hp
      · exact hx
  · have hes : es[j]? = some e0 := by simpa using hj
    refine ⟨setBlock w b (.map (es.modify j (fun e' => { e' with key := kv x, val := v })) clock), ?_, ⟨_, _, heap_setBlock_same h1 _, stamped_modify h2 _ _ (fun _ _ => rfl) (fun e' _ he' => by rw [hes] at he'; cases he'; exact hk0.symm), ?_, ?_⟩, grown_set h1 _, by simp [setBlock], fun B a hb hB => below_set hb h1 hB _⟩
    · simp [Instr.mapUpdate, run_underlying ht, MapKept.run_getObj_map h1, K.keyed.check w false hkl, hr, hes, hk0, K.keyed.stays w hkl, MapKept.run_setObj_map _ h1, Result.andThen, setBlock]
    · rw [Array.toList_modify, modify_eq_set _ _ _ _ hj, List.map_set, h3]
      have e1 : putL x v l = l.set j (x, v) := by
        unfold putL
        rw [hl]
        simp only [Option.isSome_some, if_true]
        apply List.ext_getElem?
        intro i
        rw [List.getElem?_map, List.getElem?_set]
        by_cases hij : j = i
        · subst hij
          have hjl : j < l.length := (List.getElem?_eq_some_iff.1 hlj).1
          rw [if_pos rfl, if_pos hjl, hlj]
          simp
        · rw [if_neg hij]
          cases hi : l[i]? with
          | none => rfl
          | some p =>
            simp only [Option.map_some, Option.some.injEq]
            rw [if_neg]
            intro e2
            apply hij
            have hil : i < l.length := (List.getElem?_eq_some_iff.1 hi).1
            have hjl : j < l.length := (List.getElem?_eq_some_iff.1 hlj).1
            have ei : (l.map (·.1))[i]'(by simpa using hil) = (l.map (·.1))[j]'(by simpa using hjl) := by
              rw [List.getElem?_eq_getElem hil] at hi
              rw [List.getElem?_eq_getElem hjl] at hlj
              injection hi with hi
              injection hlj with hlj
              simp only [List.getElem_map, hi, hlj, e2]
            exact ((List.getElem_inj hn).1 ei).symm
      rw [e1]
      simp [prs, List.map_set]
    · intro p hp
      simp only [putL, hl, Option.isSome_some, if_true, List.mem_map] at hp
      obtain ⟨q, hq, rfl⟩ := hp
      split
      · exact hx
      · exact h4 q hq
/-- what one delete does -/
theorem MapB.del [DecidableEq κ] (K : KeyK P k kv ok) (ht : P.underlying t = some (.map k e)) (h : MapB kv ok w b l) (hx : ok x) (ty : TypeId) :
    ∃ w', (Builtin.delete_ #[t, k] ty #[.map (some b), kv x]).run P w = .ok (.tuple #[]) w' ∧ MapB kv ok w' b (dropL x l) ∧ w.grownBy w' (some b) ∧ w'.heap.size = w.heap.size ∧ ∀ (B : Nat) (a : World), Below B a w → B ≤ b → Below B a w' := by
  have hn := h.nodup K
  obtain ⟨es, clock, h1, h2, h3, h4⟩ := h
  obtain ⟨kl, hkl⟩ := K.of hx
  have hok : ∀ p ∈ dropL x l, ok p.1 := fun p hp => h4 p (List.mem_filter.1 hp).1
  rcases find_at K w h3 h4 hx hn with ⟨hr, hl, hne⟩ | ⟨j, e0, hr, hj, hk0, hlj, hl⟩
  · refine ⟨setBlock w b (.map es clock), ?_, ⟨_, _, heap_setBlock_same h1 _, h2, ?_, hok⟩, grown_set h1 _, by simp [setBlock], fun B a hb hB => below_set hb h1 hB _⟩
    · simp [Builtin.delete_, run_underlying ht, MapKept.run_getObj_map h1, K.keyed.check w _ hkl, hr, MapKept.run_setObj_map _ h1, Result.andThen, setBlock]
    · rw [h3]
      have : dropL x l = l := List.filter_eq_self.2 fun p hp => by simpa using lookL_none.1 hl p hp
      rw [this]
  · have hjl : j < es.size := by
      have := (List.getElem?_eq_some_iff.1 hj).1
      simpa using this
    have hsub : (es.eraseIdxIfInBounds j).toList = es.toList.eraseIdx j := by
      unfold Array.eraseIdxIfInBounds
      rw [dif_pos hjl]
      simp
    refine ⟨setBlock w b (.map (es.eraseIdxIfInBounds j) clock), ?_, ⟨_, _, heap_setBlock_same h1 _, stamped_erase h2 j, ?_, hok⟩, grown_set h1 _, by simp [setBlock], fun B a hb hB => below_set hb h1 hB _⟩
    · simp [Builtin.delete_, run_underlying ht, MapKept.run_getObj_map h1, K.keyed.check w _ hkl, hr, MapKept.run_setObj_map _ h1, Result.andThen, setBlock]
    · rw [hsub, ChangeMaps.map_eraseIdx, h3]
      have e1 : dropL x l = l.eraseIdx j := by
        have hjl' : j < l.length := (List.getElem?_eq_some_iff.1 hlj).1
        refine ChangeMaps.filter_eq_eraseIdx (fun p : κ × Value => decide (p.1 = x)) l j (x, e0.val) hlj (by simp) ((List.pairwise_map.1 hn).imp fun hne ⟨h5, h6⟩ => hne ?_)
        rw [of_decide_eq_true h5, of_decide_eq_true h6]
      rw [e1]
      simp only [prs, ChangeMaps.map_eraseIdx]

/-- A LOOP OVER A MAP, under way: 'd' are the entries that have come, in the order in which they came. -/
def RngB (kv : κ → Value) (ok : κ → Prop) (w : World) (b r : Nat) (l d : List (κ × Value)) : Prop :=
  ∃ es clock since seen c0, w.heap[b]? = some (.map es clock) ∧ Stamped es clock ∧ es.toList.map (fun e => (e.key, e.val)) = prs kv l ∧ (∀ p ∈ l, ok p.1) ∧
    w.heap[r]? = some (.mapIter (some b) since seen c0) ∧ (∀ x ∈ es.toList, x.born < since) ∧ since ≤ c0 ∧ since ≤ clock ∧
    (∀ (j : Nat) (y : MapEntry) (p : κ × Value), es.toList[j]? = some y → l[j]? = some p → (seen.contains y.born = true ↔ p ∈ d)) ∧ (∀ p ∈ d, p ∈ l) ∧ (d.map (·.1)).Nodup
theorem RngB.mapB {r : Nat} {d : List (κ × Value)} (h : RngB kv ok w b r l d) : MapB kv ok w b l := by
  obtain ⟨es, clock, since, seen, c0, h1, h2, h3, h4, _⟩ := h
  exact ⟨es, clock, h1, h2, h3, h4⟩
theorem RngB.ne {r : Nat} {d : List (κ × Value)} (h : RngB kv ok w b r l d) : r ≠ b := by
  obtain ⟨es, clock, since, seen, c0, h1, h2, h3, h4, h5, _⟩ := h
  intro e1
  rw [e1, h1] at h5
  cases h5
theorem RngB.lt {r : Nat} {d : List (κ × Value)} (h : RngB kv ok w b r l d) : r < w.heap.size := by
  obtain ⟨es, clock, since, seen, c0, h1, h2, h3, h4, h5, _⟩ := h
  exact (Array.getElem?_eq_some_iff.1 h5).1
theorem RngB.same {r : Nat} {d : List (κ × Value)} (h : RngB kv ok w b r l d) (hh : w'.heap[b]? = w.heap[b]?) (hr : w'.heap[r]? = w.heap[r]?) : RngB kv ok w' b r l d := by
  obtain ⟨es, clock, since, seen, c0, h1, h2, h3, h4, h5, h6⟩ := h
  exact ⟨es, clock, since, seen, c0, hh.trans h1, h2, h3, h4, hr.trans h5, h6⟩
theorem RngB.ab {r : Nat} {d : List (κ × Value)} (h : RngB kv ok w b r l d) (hb : Below w.heap.size w w') : RngB kv ok w' b r l d := h.same (hb.block b h.mapB.lt) (hb.block r h.lt)
theorem RngB.grown {r : Nat} {d : List (κ × Value)} {row : Option Nat} (h : RngB kv ok w b r l d) (hg : w.grownBy w' row) (hb : row ≠ some b) (hr : row ≠ some r) : RngB kv ok w' b r l d :=
  h.same (hg.block b h.mapB.lt (fun e => hb e.symm)) (hg.block r h.lt (fun e => hr e.symm))
theorem pairs_nodup {d : List (κ × Value)} (h : (d.map (·.1)).Nodup) : d.Nodup := (List.pairwise_map.1 h).imp fun hne e1 => hne (by rw [e1])
theorem length_le_of_sub {α : Type} : ∀ {d l : List α}, d.Nodup → (∀ p ∈ d, p ∈ l) → d.length ≤ l.length
  | [], _, _, _ => Nat.zero_le _
  | p :: r, l, hn, hs => by
    obtain ⟨a, b, rfl⟩ := List.append_of_mem (hs p (by simp))
    obtain ⟨h1, h2⟩ := List.pairwise_cons.1 hn
    have := length_le_of_sub (d := r) (l := a ++ b) h2 fun q hq => by
      have h3 := hs q (by simp [hq])
      have h4 := h1 q hq
      simp only [List.mem_append, List.mem_cons] at h3 ⊢
      rcases h3 with h3 | h3 | h3
      · exact .inl h3
      · exact absurd h3.symm h4
      · exact .inr h3
    simp only [List.length_append, List.length_cons] at this ⊢
    omega
/-- how many have come is at most how many there are -/
theorem RngB.len_le {r : Nat} {d : List (κ × Value)} (h : RngB kv ok w b r l d) : d.length ≤ l.length := by
  obtain ⟨es, clock, since, seen, c0, h1, h2, h3, h4, h5, h6, h7, h8, h9, h10, h11⟩ := h
  exact length_le_of_sub (pairs_nodup h11) h10
theorem MapB.range (ht : P.underlying t = some (.map k e)) (h : MapB kv ok w b l) :
    ∃ w', (Instr.range t (.map (some b))).run P w = .ok (.pointer (some ⟨w.heap.size, 0, none⟩)) w' ∧ RngB kv ok w' b w.heap.size l [] ∧ Below w.heap.size w w' ∧ w'.heap.size = w.heap.size + 1 := by
  have hlt := h.lt
  obtain ⟨es, clock, h1, h2, h3, h4⟩ := h
  refine ⟨_, run_range_map w t k e b es clock ht h1, ⟨es, clock, clock, #[], clock, (heap_alloc_old w _ hlt).trans h1, h2, h3, h4, heap_alloc_new w _, h2.1, Nat.le_refl _, Nat.le_refl _, fun j y p hy hp => by simp, fun p hp => (by cases hp), by simp⟩, (Below.refl _ _).alloc (Nat.le_refl _) _, by simp⟩
theorem RngB.next (K : KeyK P k kv ok) {r : Nat} {d : List (κ × Value)} (h : RngB kv ok w b r l d) (ty : TypeId) :
    ((∀ p ∈ l, p ∈ d) ∧ (Instr.next (.pointer (some ⟨r, 0, none⟩)) false ty).run P w = .ok (.tuple #[.bool false]) w) ∨
    ∃ p w', p ∈ l ∧ p ∉ d ∧ (Instr.next (.pointer (some ⟨r, 0, none⟩)) false ty).run P w = .ok (.tuple #[.bool true, kv p.1, p.2]) w' ∧ RngB kv ok w' b r l (d ++ [p]) ∧ w.grownBy w' (some r) ∧ w'.heap.size = w.heap.size ∧
      (Instr.entry (.pointer (some ⟨r, 0, none⟩))).run P w' = .ok (.tuple #[kv p.1, p.2]) w' ∧ ∀ (B : Nat) (a : World), Below B a w → B ≤ r → Below B a w' := by
  have hne := h.ne
  have hn := h.mapB.nodup K
  obtain ⟨es, clock, since, seen, c0, h1, h2, h3, h4, h5, h6, h7, h8, h9, h10, h11⟩ := h
  have hpair : ∀ (j : Nat) (y : MapEntry), es.toList[j]? = some y → ∃ p, l[j]? = some p ∧ y.key = kv p.1 ∧ y.val = p.2 := fun j y hy => by
    have := prs_at h3 j
    rw [hy] at this
    cases hl : l[j]? with
    | none => rw [hl] at this; simp at this
    | some p =>
      rw [hl] at this
      simp only [Option.map_some, Option.some.injEq, Prod.mk.injEq] at this
      exact ⟨p, rfl, this.1, this.2⟩
  have hpair' : ∀ (j : Nat) (p : κ × Value), l[j]? = some p → ∃ y, es.toList[j]? = some y := fun j p hp => by
    have := prs_at h3 j
    rw [hp] at this
    cases hl : es.toList[j]? with
    | none => rw [hl] at this; simp at this
    | some y => exact ⟨y, rfl⟩
  rcases run_next_at (P := P) w ty r b since c0 seen es clock h5 h1 h6 h7 with ⟨h0, hrun⟩ | ⟨y, hy, w1, hal, hrun⟩
  · refine .inl ⟨fun p hp => ?_, hrun⟩
    obtain ⟨j, hj, hjp⟩ := List.getElem_of_mem hp
    have hlj : l[j]? = some p := by rw [List.getElem?_eq_getElem hj, hjp]
    obtain ⟨y, hy⟩ := hpair' j p hlj
    refine (h9 j y p hy hlj).1 (all_seen es seen h0 y (List.mem_of_getElem? hy))
  · obtain ⟨hym, hys⟩ := mem_left hy
    obtain ⟨j, hj, hjy⟩ := List.getElem_of_mem hym
    have hey : es.toList[j]? = some y := by rw [List.getElem?_eq_getElem hj, hjy]
    obtain ⟨p, hlj, hpk, hpv⟩ := hpair j y hey
    have hpd : p ∉ d := fun hd => by
      have := (h9 j y p hey hlj).2 hd
      rw [hys] at this
      cases this
    have hpm : p ∈ l := List.mem_of_getElem? hlj
    have hr1 : w1.heap[r]? = some (.mapIter (some b) since seen c0) := by rcases hal with rfl | rfl <;> exact h5
    have hb1 : w1.heap[b]? = some (.map es clock) := by rcases hal with rfl | rfl <;> exact h1
    have hset := heap_set (o' := .mapIter (some b) since (seen.push y.born) clock) hr1
    have hb' : (setBlock w1 r (.mapIter (some b) since (seen.push y.born) clock)).heap[b]? = some (.map es clock) := (hset.2 b (fun e1 => hne e1.symm)).trans hb1
    have hkeys : ∀ (i : Nat) (z : MapEntry), es.toList[i]? = some z → (z.born = y.born ↔ i = j) := fun i z hz => by
      have hnb := ((stamped_iff es clock).1 h2).2.1
      have hil : i < es.toList.length := (List.getElem?_eq_some_iff.1 hz).1
      refine ⟨fun e1 => ?_, fun e1 => by subst e1; rw [hey] at hz; injection hz with hz; rw [hz]⟩
      have ei : (es.toList.map (·.born))[i]'(by simpa using hil) = (es.toList.map (·.born))[j]'(by simpa using hj) := by
        rw [List.getElem?_eq_getElem hil] at hz
        injection hz with hz
        simp only [List.getElem_map, hz, hjy, e1]
      exact (List.getElem_inj hnb).1 ei
    refine .inr ⟨p, _, hpm, hpd, by rw [← hpk, ← hpv]; exact hrun, ⟨es, clock, since, seen.push y.born, clock, hb', h2, h3, h4, hset.1, h6, h8, h8, fun i z q hz hq => ?_, fun q hq => ?_, ?_⟩, ?_, ?_, ?_, ?_⟩
    · have hiff := hkeys i z hz
      have hij : q = p ↔ i = j := by
        refine ⟨fun e1 => ?_, fun e1 => by subst e1; rw [hlj] at hq; injection hq with hq; exact hq.symm⟩
        have hil : i < l.length := (List.getElem?_eq_some_iff.1 hq).1
        have hjl : j < l.length := (List.getElem?_eq_some_iff.1 hlj).1
        have ei : (l.map (·.1))[i]'(by simpa using hil) = (l.map (·.1))[j]'(by simpa using hjl) := by
          rw [List.getElem?_eq_getElem hil] at hq
          rw [List.getElem?_eq_getElem hjl] at hlj
          injection hq with hq
          injection hlj with hlj
          simp only [List.getElem_map, hq, hlj, e1]
        exact (List.getElem_inj hn).1 ei
      have h90 := h9 i z q hz hq
      rw [contains_push]
      simp only [Bool.or_eq_true, beq_iff_eq, List.mem_append, List.mem_singleton, hiff, hij, h90]
    · rcases List.mem_append.1 hq with hq | hq
      · exact h10 q hq
      · rw [List.mem_singleton] at hq
        rw [hq]
        exact hpm
    · rw [List.map_append]
      refine List.nodup_append.2 ⟨h11, by simp, fun a ha c hc => ?_⟩
      simp only [List.map_cons, List.map_nil, List.mem_singleton] at hc
      subst hc
      intro e1
      obtain ⟨q, hq, hqk⟩ := List.mem_map.1 ha
      have hqm := h10 q hq
      have : q = p := by
        obtain ⟨i, hi, hiq⟩ := List.getElem_of_mem hqm
        have hjl : j < l.length := (List.getElem?_eq_some_iff.1 hlj).1
        have ei : (l.map (·.1))[i]'(by simpa using hi) = (l.map (·.1))[j]'(by simpa using hjl) := by
          rw [List.getElem?_eq_getElem hjl] at hlj
          injection hlj with hlj
          simp only [List.getElem_map, hiq, hlj, hqk, e1]
        have hij := (List.getElem_inj hn).1 ei
        subst hij
        rw [List.getElem?_eq_getElem hjl] at hlj
        injection hlj with hlj
        rw [← hiq, hlj]
      rw [this] at hq
      exact hpd hq
    · rcases hal with rfl | rfl <;> exact ⟨rfl, rfl, rfl, by simp [setBlock], fun i _ hi => hset.2 i (fun e1 => hi (by rw [e1]))⟩
    · rcases hal with rfl | rfl <;> simp [setBlock]
    · rw [← hpk, ← hpv]
      exact run_entry_at _ r b since seen es clock y hset.1 hb' hym ((stamped_iff es clock).1 h2).2.1
    · intro B a hB hBr
      refine hB.trans ?_
      rcases hal with rfl | rfl <;> exact ⟨rfl, rfl, rfl, by simp [setBlock], fun i hi => hset.2 i (by omega)⟩
end
section
variable {P : Program} {k e t : TypeId} {κ : Type} {kv : κ → Value} {ok : κ → Prop} {w : World} {b : Nat} {l : List (κ × Value)} {ops : Array Oper} {rest : List Oper} {o : Oper} {a : Act} {Q : Exit → Act → World → Prop}
theorem wpList_mapPut [DecidableEq κ] (hg : o.guard = none) (m x v : Operand) (hop : o.op = .mapUpdate t m x v) (K : KeyK P k kv ok) (ht : P.underlying t = some (.map k e)) (hm : a.eval m = .map (some b)) (h : MapB kv ok w b l)
    (y : κ) (hy : ok y) (hx : a.eval x = kv y) (val : Value) (hv : a.eval v = val)
    (hK : ∀ w', MapB kv ok w' b (putL y val l) → w.grownBy w' (some b) → w'.heap.size = w.heap.size → (∀ (B : Nat) (a : World), Below B a w → B ≤ b → Below B a w') → wpList P ops Q rest (a.put o.dst undef) w') : wpList P ops Q (o :: rest) a w := by
  refine wpList_plain hg fun K' hK' => ?_
  obtain ⟨w', hrun, r1, r2, r3, r4⟩ := h.put K ht hy val
  unfold Oper.wp
  simp [execOp, hop, hm, hx, hv, hrun, Result.andThen]
  exact hK' _ _ (hK w' r1 r2 r3 r4)
theorem wpList_mapDel [DecidableEq κ] (hg : o.guard = none) (m x : Operand) (hop : o.op = .call { callee := .builtin .delete, args := #[m, x], argTypes := #[t, k] }) (K : KeyK P k kv ok) (ht : P.underlying t = some (.map k e)) (hm : a.eval m = .map (some b)) (h : MapB kv ok w b l)
    (y : κ) (hy : ok y) (hx : a.eval x = kv y)
    (hK : ∀ w', MapB kv ok w' b (dropL y l) → w.grownBy w' (some b) → w'.heap.size = w.heap.size → (∀ (B : Nat) (a : World), Below B a w → B ≤ b → Below B a w') → wpList P ops Q rest (a.put o.dst (.tuple #[])) w') : wpList P ops Q (o :: rest) a w := by
  refine wpList_plain hg fun K' hK' => ?_
  obtain ⟨w', hrun, r1, r2, r3, r4⟩ := h.del K ht hy o.type
  unfold Oper.wp
  simp [execOp, hop, resolve, invoke, builtin, hm, hx, hrun, Result.andThen]
  exact hK' _ _ (hK w' r1 r2 r3 r4)
theorem wpList_mapRange (hg : o.guard = none) (m : Operand) (hop : o.op = .range t m) (ht : P.underlying t = some (.map k e)) (hm : a.eval m = .map (some b)) (h : MapB kv ok w b l)
    (hK : ∀ w', RngB kv ok w' b w.heap.size l [] → Below w.heap.size w w' → w'.heap.size = w.heap.size + 1 → wpList P ops Q rest (a.put o.dst (.pointer (some ⟨w.heap.size, 0, none⟩))) w') : wpList P ops Q (o :: rest) a w := by
  refine wpList_plain hg fun K' hK' => ?_
  obtain ⟨w', hrun, r1, r2, r3⟩ := h.range ht
  unfold Oper.wp
  simp [execOp, hop, hm, hrun, Result.andThen]
  exact hK' _ _ (hK w' r1 r2 r3)
theorem wpList_mapNext (hg : o.guard = none) (it : Operand) (hop : o.op = .next it false) (K : KeyK P k kv ok) {r : Nat} {d : List (κ × Value)} (hit : a.eval it = .pointer (some ⟨r, 0, none⟩)) (h : RngB kv ok w b r l d)
    (hDone : (∀ p ∈ l, p ∈ d) → wpList P ops Q rest (a.put o.dst (.tuple #[.bool false])) w)
    (hMore : ∀ p w', p ∈ l → p ∉ d → RngB kv ok w' b r l (d ++ [p]) → w.grownBy w' (some r) → w'.heap.size = w.heap.size → (Instr.entry (.pointer (some ⟨r, 0, none⟩))).run P w' = .ok (.tuple #[kv p.1, p.2]) w' → (∀ (B : Nat) (a : World), Below B a w → B ≤ r → Below B a w') →
      wpList P ops Q rest (a.put o.dst (.tuple #[.bool true, kv p.1, p.2])) w') : wpList P ops Q (o :: rest) a w := by
  refine wpList_plain hg fun K' hK' => ?_
  unfold Oper.wp
  rcases h.next K o.type with ⟨h0, hrun⟩ | ⟨p, w', h1, h2, hrun, h3, h4, h5, h6, h7⟩
  · simp [execOp, hop, hit, hrun, Result.andThen]
    exact hK' _ _ (hDone h0)
  · simp [execOp, hop, hit, hrun, Result.andThen]
    exact hK' _ _ (hMore p w' h1 h2 h3 h4 h5 h6 h7)
end
end Go.Proofs.YtakgebbeknfplaaGreat
