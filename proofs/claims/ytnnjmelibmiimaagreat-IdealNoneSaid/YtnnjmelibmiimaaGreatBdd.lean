/-
  CAPS: the plain law: all handles that ever were; what each call answers.
-/
import Derived.Test.YtnnjmelibmiimaaGreatBdc
import Derived.Test.YtnnjmelibmiimaaGreatBda
import Derived.RangeFuncNested
import Derived.RangeFuncBound
import Derived.RangeFuncCalls
import Derived.RangeFuncLeaves
import Derived.RangeFuncBox
import Derived.WalkKit
import Derived.OwnWalkIn
import Derived.TacticsInMore
import Derived.LoopNIn
import Derived.LoopIn
import Derived.Sort.LoopGhostIn
import Derived.Sort.MapsRangeIn
import Derived.Maps.OwnIn
import Derived.Shelf.Abstract
import Derived.Shelf.SlMaps.Clone
import Derived.RegionIn
import Derived.Sort.EncStr
import Derived.Sort.KeysCollected
import Derived.Lib.SlBytesConst
namespace Go.Proofs.YtnnjmelibmiimaaGreat
open Go.RowKit
set_option linter.unusedVariables false

/-- a handle: rights, who gave it, whether it is alive -/
structure Hdl where
  r : Nat
  up : Nat
  on : Bool
abbrev HL := List Hdl
def nthH (A : HL) (h : Nat) : Option Hdl := if h = 0 then none else A[h - 1]?
def atH (A : HL) (h : Nat) : Option Hdl := (nthH A h).filter (·.on)
def upH (A : HL) (k : Nat) : Nat := match atH A k with | some x => x.up | none => 0
def aliveF : Nat → HL → List Nat
  | _, [] => []
  | k, x :: r => bif x.on then (k + 1) :: aliveF (k + 1) r else aliveF (k + 1) r
def aliveH (A : HL) : List Nat := aliveF 0 A
def putH (A : HL) (r u : Nat) : (Nat × Nat) × HL := if 64 ≤ (aliveH A).length then ((0, 9), A) else ((A.length + 1, 0), A ++ [⟨r, u, true⟩])
def checkH (A : HL) (h need : Nat) : Nat := match atH A h with
  | none => 7
  | some x => bif overR need x.r then 250 else 0
def clearH (A : HL) : HL := A.map fun x => ⟨x.r, x.up, false⟩
/-- who gave a handle came ahead of it, and is alive where it is -/
structure RightA (A : HL) : Prop where
  lt : ∀ (i : Nat) (x : Hdl), A[i]? = some x → x.up ≤ i
  on : ∀ (i : Nat) (x : Hdl), A[i]? = some x → x.on = true → x.up ≠ 0 → (atH A x.up).isSome = true
theorem atH_some {A : HL} {h : Nat} {x : Hdl} : atH A h = some x ↔ 1 ≤ h ∧ A[h - 1]? = some x ∧ x.on = true := by
  unfold atH nthH
  by_cases e : h = 0
  · subst e; simp
  · rw [if_neg e, Option.filter_eq_some_iff]
    constructor
    · rintro ⟨h1, h2⟩; exact ⟨by omega, h1, h2⟩
    · rintro ⟨_, h1, h2⟩; exact ⟨h1, h2⟩
theorem atH_le {A : HL} {h : Nat} {x : Hdl} (e : atH A h = some x) : 1 ≤ h ∧ h ≤ A.length := by
  obtain ⟨h1, h2, _⟩ := atH_some.1 e
  have := (List.getElem?_eq_some_iff.1 h2).1
  exact ⟨h1, by omega⟩
theorem atH_isSome {A : HL} {h : Nat} : (atH A h).isSome = true ↔ ∃ x, 1 ≤ h ∧ A[h - 1]? = some x ∧ x.on = true := by
  rw [Option.isSome_iff_exists]
  constructor
  · rintro ⟨x, hx⟩; exact ⟨x, atH_some.1 hx⟩
  · rintro ⟨x, hx⟩; exact ⟨x, atH_some.2 hx⟩
theorem aliveF_snoc (x : Hdl) : ∀ (A : HL) (k : Nat), aliveF k (A ++ [x]) = aliveF k A ++ (bif x.on then [k + A.length + 1] else [])
  | [], k => by cases h : x.on <;> simp [aliveF, h]
  | y :: r, k => by
    simp only [List.cons_append, aliveF, aliveF_snoc x r (k + 1), List.length_cons]
    have e : k + 1 + r.length + 1 = k + (r.length + 1) + 1 := by omega
    rw [e]
    cases y.on <;> simp
theorem aliveF_cons (k : Nat) (x : Hdl) (r : HL) : aliveF k (x :: r) = bif x.on then (k + 1) :: aliveF (k + 1) r else aliveF (k + 1) r := rfl
theorem aliveF_mem {n : Nat} : ∀ {A : HL} {k : Nat}, n ∈ aliveF k A ↔ ∃ i x, A[i]? = some x ∧ x.on = true ∧ n = k + i + 1
  | [], k => by simp [aliveF]
  | y :: r, k => by
    have ih := aliveF_mem (n := n) (A := r) (k := k + 1)
    have hl : n ∈ aliveF k (y :: r) ↔ (y.on = true ∧ n = k + 1) ∨ n ∈ aliveF (k + 1) r := by
      rw [aliveF_cons]
      cases hy : y.on <;> simp
    rw [hl, ih]
    constructor
    · rintro (⟨h1, h2⟩ | ⟨i, x, h1, h2, h3⟩)
      · exact ⟨0, y, rfl, h1, by omega⟩
      · exact ⟨i + 1, x, by simpa using h1, h2, by omega⟩
    · rintro ⟨i, x, h1, h2, h3⟩
      cases i with
      | zero =>
        simp only [List.getElem?_cons_zero, Option.some.injEq] at h1
        subst h1
        exact .inl ⟨h2, by omega⟩
      | succ i => exact .inr ⟨i, x, by simpa using h1, h2, by omega⟩
theorem aliveF_asc : ∀ (A : HL) (k : Nat), (aliveF k A).Pairwise (· < ·)
  | [], k => List.Pairwise.nil
  | y :: r, k => by
    have ih := aliveF_asc r (k + 1)
    rw [aliveF_cons]
    cases y.on
    · exact ih
    · refine List.pairwise_cons.2 ⟨fun n hn => ?_, ih⟩
      obtain ⟨i, x, _, _, h3⟩ := aliveF_mem.1 hn
      omega
theorem aliveH_mem {A : HL} {n : Nat} : n ∈ aliveH A ↔ (atH A n).isSome = true := by
  unfold aliveH
  rw [aliveF_mem, atH_isSome]
  constructor
  · rintro ⟨i, x, h1, h2, rfl⟩; exact ⟨x, by omega, by simpa using h1, h2⟩
  · rintro ⟨x, h1, h2, h3⟩; exact ⟨n - 1, x, h2, h3, by omega⟩
theorem aliveH_asc (A : HL) : (aliveH A).Pairwise (· < ·) := aliveF_asc A 0
theorem aliveH_nodup (A : HL) : (aliveH A).Nodup := (aliveH_asc A).imp fun h => Nat.ne_of_lt h
theorem aliveH_le {A : HL} {n : Nat} (h : n ∈ aliveH A) : 1 ≤ n ∧ n ≤ A.length := by
  obtain ⟨x, hx⟩ := Option.isSome_iff_exists.1 (aliveH_mem.1 h)
  exact atH_le hx
theorem aliveH_snoc (A : HL) (r u : Nat) : aliveH (A ++ [⟨r, u, true⟩]) = aliveH A ++ [A.length + 1] := by
  unfold aliveH
  rw [aliveF_snoc]
  simp
/-- behind one handle more -/
theorem atH_snoc (A : HL) (x : Hdl) (k : Nat) : atH (A ++ [x]) k = if k = A.length + 1 then (bif x.on then some x else none) else atH A k := by
  unfold atH nthH
  by_cases e : k = 0
  · subst e; simp
  · rw [if_neg e, if_neg e]
    by_cases e1 : k = A.length + 1
    · subst e1
      rw [if_pos rfl, List.getElem?_append_right (by omega)]
      cases h : x.on <;> simp [Option.filter, h]
    · rw [if_neg e1]
      by_cases e2 : k - 1 < A.length
      · rw [List.getElem?_append_left e2]
      · rw [List.getElem?_eq_none (by simp; omega), List.getElem?_eq_none (by omega)]
theorem RightA.nil : RightA [] := ⟨fun i x h => by simp at h, fun i x h => by simp at h⟩
theorem RightA.snoc {A : HL} (hA : RightA A) (r u : Nat) (hu : u = 0 ∨ (atH A u).isSome = true) : RightA (A ++ [⟨r, u, true⟩]) := by
  have hle : u ≤ A.length := by
    rcases hu with rfl | h
    · omega
    · obtain ⟨x, hx⟩ := Option.isSome_iff_exists.1 h
      exact (atH_le hx).2
  refine ⟨fun i x h => ?_, fun i x h hon h0 => ?_⟩
  · rcases Nat.lt_or_ge i A.length with hi | hi
    · rw [List.getElem?_append_left hi] at h
      exact hA.lt i x h
    · rw [List.getElem?_append_right hi] at h
      cases hd : i - A.length with
      | zero =>
        rw [hd] at h
        simp only [List.getElem?_cons_zero, Option.some.injEq] at h
        subst h
        show u ≤ i
        omega
      | succ n => rw [hd] at h; simp at h
  · rw [atH_snoc]
    split
    · rfl
    · rcases Nat.lt_or_ge i A.length with hi | hi
      · rw [List.getElem?_append_left hi] at h
        exact hA.on i x h hon h0
      · rw [List.getElem?_append_right hi] at h
        cases hd : i - A.length with
        | zero =>
          rw [hd] at h
          simp only [List.getElem?_cons_zero, Option.some.injEq] at h
          subst h
          rcases hu with h1 | h1
          · exact absurd h1 h0
          · exact h1
        | succ n => rw [hd] at h; simp at h
theorem RightA.clear {A : HL} (hA : RightA A) : RightA (clearH A) := by
  refine ⟨fun i x h => ?_, fun i x h hon h0 => ?_⟩
  · unfold clearH at h
    rw [List.getElem?_map, Option.map_eq_some_iff] at h
    obtain ⟨y, hy, rfl⟩ := h
    exact hA.lt i y hy
  · unfold clearH at h
    rw [List.getElem?_map, Option.map_eq_some_iff] at h
    obtain ⟨y, hy, rfl⟩ := h
    cases hon
end Go.Proofs.YtnnjmelibmiimaaGreat
namespace Go.Proofs.YtnnjmelibmiimaaGreat
open Go.RowKit Go.MapKept
set_option linter.unusedVariables false

section
variable {P : Program} {k e t : TypeId} {κ : Type} {kv : κ → Value} {ok : κ → Prop} {w w' : World} {b : Nat} {l : List (κ × Value)} {ops : Array Oper} {rest : List Oper} {o : Oper} {a : Act} {Q : Exit → Act → World → Prop} {F : Fence} {n : Nat}
theorem RngB.walks {r : Nat} {d : List (κ × Value)} (h : RngB kv ok w b r l d) (hk : KeepsWalks w w') : RngB kv ok w' b r l d := by
  have h0 := h
  obtain ⟨es, clock, since, seen, c0, h1, h2, h3, h4, h5, h6⟩ := h
  exact h0.same ((hk.same b _ h1 rfl).trans h1.symm) ((hk.same r _ h5 rfl).trans h5.symm)
theorem RngB.walk {r : Nat} {d : List (κ × Value)} (h : RngB kv ok w b r l d) : ∃ o : Obj, w.heap[r]? = some o ∧ o.isWalk = true := by
  obtain ⟨es, clock, since, seen, c0, h1, h2, h3, h4, h5, h6⟩ := h
  exact ⟨_, h5, rfl⟩
end
section
variable {P : Program} {F : Fence} {n : Nat}
/-- what a round that goes on keeps -/
def KpX (B : Nat) (W W' : World) : Prop := KeepsWalks W W' ∧ Below B W W'
theorem KpX.tr {B : Nat} {X Y Z : World} (h : KpX B X Y) (k : KpX B Y Z) : KpX B X Z := ⟨h.1.trans k.1, h.2.trans k.2⟩
theorem KpX.put {B l : Nat} {W : World} {o : Obj} (o' : Obj) (hB : B ≤ l) (h : W.heap[l]? = some o) (hw : o.isWalk = false) : KpX B W (W.putObj l o') :=
  ⟨KeepsWalks.putObj _ h hw, (Below.refl B W).grown (grownBy_putObj' W l o') (by have := (Array.getElem?_eq_some_iff.1 h).1; omega) (fun k e => by cases e; exact hB)⟩
end
end Go.Proofs.YtnnjmelibmiimaaGreat
namespace Go.Proofs.YtnnjmelibmiimaaGreat.U64
open Go.RowKit Go.Sort Go.Shelf
set_option linter.unusedVariables false
attribute [local go_sem] Oper.semAt_some

/-- between two rounds -/
def ApI (w : World) (pre : List Nat) (W : World) : Prop := (∃ v, Boxed W w.heap.size 156 v ∧ NsB W w.heap.size v pre) ∧ Below w.heap.size w W
theorem ApI.turn {w : World} {B : Nat} (hB : w.heap.size ≤ B) {s : List Nat} {A C : World} {row : Option Nat} (h : ApI w s A) (hg : A.grownBy C row) (hr : ∀ r, row = some r → B ≤ r ∧ ∃ o : Obj, A.heap[r]? = some o ∧ o.isCells = false) : ApI w s C := by
  obtain ⟨⟨v, hv, hn⟩, hb⟩ := h
  refine ⟨⟨v, hv.kept hg fun e => ?_, hn.kept hg ?_⟩, hb.grown hg hb.size (fun k e => Nat.le_trans hB (hr k e).1)⟩
  · obtain ⟨_, o, ho, hc⟩ := hr _ e.symm
    rw [show A.heap[w.heap.size]? = _ from hv] at ho
    cases ho
    cases hc
  · rcases hn.2 with ⟨rfl, _⟩ | ⟨g, cap, cur, rfl, _, hh, _⟩
    · exact .inl rfl
    · refine .inr fun e => ?_
      obtain ⟨_, o, ho, hc⟩ := hr g (by rw [← e]; rfl)
      rw [hh] at ho
      cases ho
      cases hc
end Go.Proofs.YtnnjmelibmiimaaGreat.U64
namespace Go.Proofs.YtnnjmelibmiimaaGreat
open Go.RowKit Go.Shelf
set_option linter.unusedVariables false

/-- the caps' state -/
structure CpA (w : World) (B c : Nat) (mo : Option Nat) (A : HL) : Prop where
  st : ∃ l, CpB w B c mo A.length l ∧ (∀ k, getC k l = (atH A k).map fun x => (x.r, x.up)) ∧ (l.map (·.1)).Nodup
  right : RightA A
  few : (aliveH A).length ≤ 64
theorem cp_mem {A : HL} {l : CpL} (h : ∀ k, getC k l = (atH A k).map fun x => (x.r, x.up)) (k : Nat) : k ∈ l.map (·.1) ↔ k ∈ aliveH A := by
  rw [aliveH_mem]
  have h1 : (atH A k).isSome = (getC k l).isSome := by rw [h]; simp
  rw [h1]
  unfold getC
  rw [Option.isSome_map, List.find?_isSome]
  simp only [List.mem_map, decide_eq_true_eq]
theorem cp_perm {A : HL} {l : CpL} (h : ∀ k, getC k l = (atH A k).map fun x => (x.r, x.up)) (hn : (l.map (·.1)).Nodup) : (l.map (·.1)).Perm (aliveH A) :=
  (List.perm_ext_iff_of_nodup hn (aliveH_nodup A)).2 fun k => cp_mem h k
theorem cp_len {A : HL} {l : CpL} (h : ∀ k, getC k l = (atH A k).map fun x => (x.r, x.up)) (hn : (l.map (·.1)).Nodup) : l.length = (aliveH A).length := by
  have := (cp_perm h hn).length_eq
  rwa [List.length_map] at this
section
variable {w w' : World} {B c : Nat} {mo : Option Nat} {A : HL}
theorem CpA.ab (h : CpA w B c mo A) (hb : Below w.heap.size w w') : CpA w' B c mo A := by
  obtain ⟨⟨l, h1, h2⟩, h3, h4⟩ := h
  exact ⟨⟨l, h1.ab hb, h2⟩, h3, h4⟩
theorem CpA.new (w : World) (B : Nat) (hB : B ≤ w.heap.size) : CpA (w.alloc (.cells #[.map none, .int .u64 0] 107)) B w.heap.size none [] :=
  ⟨⟨[], CpB.new w B hB, fun k => by simp [getC, atH, nthH], by simp⟩, RightA.nil, by simp [aliveH, aliveF]⟩
end
/-- which blocks a call on caps may turn -/
def capF (c : Nat) (mo : Option Nat) (k : Nat) : Prop := k = c ∨ mo = some k
/-- behind a call that may have made a map -/
def CapR (B c : Nat) (mo : Option Nat) (w : World) (v : Value) (A' : HL) (e : Ending) (w' : World) : Prop :=
  e = .returned v ∧ ∃ mo', CpA w' B c mo' A' ∧ Fr w w' (capF c mo) ∧ (mo' = mo ∨ ∃ m, mo' = some m ∧ w.heap.size ≤ m)
theorem getC_snoc (l : CpL) (n k : Nat) (x : Nat × Nat) (hn : getC n l = none) : getC k (l ++ [(n, x)]) = if k = n then some x else getC k l := by
  unfold getC at hn ⊢
  rw [Option.map_eq_none_iff] at hn
  rw [List.find?_append]
  by_cases e : k = n
  · subst e
    rw [hn]
    simp
  · rw [if_neg e]
    have : ((([(n, x)] : CpL)).find? fun p => decide (p.1 = k)) = none := by
      rw [List.find?_eq_none]
      intro p hp
      simp only [List.mem_singleton] at hp
      subst hp
      simpa using fun h => e h.symm
    rw [this, Option.or_none]
/-- where a put's post comes from -/
theorem PutA.to {B c : Nat} {mo : Option Nat} {A : HL} {l : CpL} {w : World} {e : Ending} {w' : World} {r u : Nat} (hA : RightA A) (hu : u = 0 ∨ (atH A u).isSome = true) (h : CpB w B c mo A.length l) (hg : ∀ k, getC k l = (atH A k).map fun x => (x.r, x.up)) (hn : (l.map (·.1)).Nodup) (hf : (aliveH A).length ≤ 64)
    (hp : PutA B c A.length (r, u) mo l w e w') : CapR B c mo w (.tuple #[.int .u64 ((putH A r u).1.1 : Int), .int .i64 ((putH A r u).1.2 : Int)]) (putH A r u).2 e w' := by
  have hl := cp_len hg hn
  have hnew : getC (A.length + 1) l = none := getC_none fun p hp e => by have := (h.le p hp).2; omega
  unfold putH
  rcases hp with ⟨h1, m', rfl, h3, h4, h5⟩ | ⟨h1, rfl, h3⟩
  · rw [if_neg (by omega)]
    refine ⟨by simp, some m', ⟨⟨_, by simpa using h3, fun k => ?_, ?_⟩, hA.snoc r u hu, ?_⟩, h4, ?_⟩
    · rw [getC_snoc _ _ _ _ hnew, atH_snoc, hg]
      split <;> simp
    · rw [List.map_append]
      refine List.nodup_append.2 ⟨hn, by simp, fun a ha b hb => ?_⟩
      simp only [List.map_cons, List.map_nil, List.mem_singleton] at hb
      subst hb
      intro e
      have := aliveH_le ((cp_mem hg a).1 ha)
      omega
    · rw [aliveH_snoc, List.length_append, List.length_singleton]
      omega
    · rcases h5 with h5 | ⟨_, h5⟩
      · exact .inl h5.symm
      · exact .inr ⟨m', rfl, h5⟩
  · rw [if_pos (by omega)]
    exact ⟨rfl, mo, ⟨⟨l, h.ab h3, hg, hn⟩, hA, hf⟩, Fr.of h3 _, .inl rfl⟩

section
variable {B c : Nat} {mo : Option Nat} {A : HL} {w : World}
theorem attachA_any (h : CpA w B c mo A) (hm : A.length < 1000000) : Calls Tryz.prog 76 #[.pointer (some ⟨c, 0, none⟩)] w (CapR B c mo w (.tuple #[.int .u64 ((putH A 15 0).1.1 : Int), .int .i64 ((putH A 15 0).1.2 : Int)]) (putH A 15 0).2) := by
  obtain ⟨⟨l, h1, h2, h3⟩, h4, h5⟩ := h
  have hl := cp_len h2 h3
  exact (attach_any B c A.length mo l w h1 (by omega) (by omega)).mono fun e w' hp => PutA.to h4 (.inl rfl) h1 h2 h3 h5 hp
def finH (A : HL) (k : Nat) : (Nat × Nat) × Nat := match atH A k with | none => ((0, 0), 7) | some x => ((x.r, x.up), 0)
theorem findA_any (k : Nat) (h : CpA w B c mo A) (hk : u64Ok k) : Calls Tryz.prog 111 #[.pointer (some ⟨c, 0, none⟩), .int .u64 (k : Int)] w fun e w' => e = .returned (.tuple #[hdV (finH A k).1, .int .i64 ((finH A k).2 : Int)]) ∧ Below w.heap.size w w' := by
  obtain ⟨⟨l, h1, h2, h3⟩, h4, h5⟩ := h
  have h6 := find_any B c A.length k mo l w h1 hk
  unfold findP at h6
  unfold finH
  rw [h2] at h6
  cases ha : atH A k with
  | none => rw [ha] at h6; exact h6
  | some x => rw [ha] at h6; exact h6
set_option maxRecDepth 100000 in
theorem checkA_any (h need : Nat) (hc : CpA w B c mo A) (hk : u64Ok h) : Calls Tryz.prog 110 #[.pointer (some ⟨c, 0, none⟩), .int .u64 (h : Int), .int .u8 (need : Int)] w fun e w' => e = .returned (.int .i64 (checkH A h need : Int)) ∧ Below w.heap.size w w' := by
  have HF := Lib.hid (findA_any h hc hk)
  unfold finH at HF
  unfold checkH
  cases ha : atH A h with
  | none =>
    rw [ha] at HF
    simp only [hdV] at HF
    clear hc hk ha
    go_enter Tryz.func110, Tryz.ntmps110
    go_wp2_with fail
    refine HF.out.mono ?_
    rintro e w1 ⟨rfl, hb⟩
    have B1 := Lib.hid hb
    clear hb HF
    go_wp2_with fail
    go_ret
    exact ⟨rfl, B1.out.alloc B1.out.size _⟩
  | some x =>
    rw [ha] at HF
    simp only [hdV] at HF
    have d2 : (bits .andNot .u8 (need : Int) (x.r : Int) != 0) = overR need x.r := rfl
    simp only
    generalize overR need x.r = b2 at *
    clear hc hk ha
    cases b2
    all_goals
      go_enter Tryz.func110, Tryz.ntmps110
      go_wp2_with fail
      refine HF.out.mono ?_
      rintro e w1 ⟨rfl, hb⟩
      have B1 := Lib.hid hb
      clear hb HF
      go_wp2_with fail
      go_ret
      exact ⟨rfl, B1.out.alloc B1.out.size _⟩
end
end Go.Proofs.YtnnjmelibmiimaaGreat

namespace Go.Proofs.YtnnjmelibmiimaaGreat
open Go.RowKit Go.Shelf
open Go.ChangeMaps (setBlock heap_setBlock_same heap_setBlock_other modify_eq_set)
set_option linter.unusedVariables false
attribute [local go_sem] Oper.semAt_some

section
variable {P : Program} {k e t : TypeId} {κ : Type} {kv : κ → Value} {ok : κ → Prop} {w : World} {b : Nat} {l : List (κ × Value)} {ops : Array Oper} {rest : List Oper} {o : Oper} {a : Act} {Q : Exit → Act → World → Prop}
theorem MapB.clear (ht : P.underlying t = some (.map k e)) (h : MapB kv ok w b l) (ty : TypeId) : ∃ w', (Builtin.clear_ #[t] ty #[.map (some b)]).run P w = .ok (.tuple #[]) w' ∧ MapB kv ok w' b [] ∧ w.grownBy w' (some b) := by
  obtain ⟨es, clock, h1, h2, h3, h4⟩ := h
  refine ⟨setBlock w b (.map #[] clock), ?_, ⟨#[], clock, heap_setBlock_same h1 _, MapKept.stamped_empty _, rfl, fun p hp => (by cases hp)⟩, grown_set h1 _⟩
  simp [Builtin.clear_, run_underlying ht, MapKept.run_getObj_map h1, MapKept.run_setObj_map _ h1, Result.andThen, setBlock]
end
/-- a copy of a map, or none -/
def ClR (S : Nat) (mo : Option Nat) (l : CpL) (v : Value) (W : World) : Prop := ∃ mo', v = .map mo' ∧ (mo = none → mo' = none) ∧ ∀ m, mo = some m → ∃ n, mo' = some n ∧ S ≤ n ∧ MapB u64V u64Ok W n (cpV l)
theorem ClR.mono (S : Nat) (mo : Option Nat) (l : CpL) : Mono (ClR S mo l) := fun v W W' ⟨mo', h1, h2, h3⟩ hb => ⟨mo', h1, h2, fun m hm => by
  obtain ⟨n, h4, h5, h6⟩ := h3 m hm
  exact ⟨n, h4, h5, h6.ab hb⟩⟩
theorem CpB.look1 {w : World} {B c made : Nat} {mo : Option Nat} {l : CpL} (h : CpB w B c mo made l) {k : Nat} (hk : u64Ok k) : (Instr.lookup 102 (.map mo) (.int .u64 (k : Int)) false).run Tryz.prog w = .ok (hdV ((getC k l).getD (0, 0))) w := by
  cases mo with
  | none =>
    rw [h.nil rfl]
    exact look_nil (x := k) u64_K Tryz.underlying102 hk (zero_hd w) false
  | some m =>
    have hm := (h.map m rfl).2
    have hl := look_cp k l
    cases hg : getC k l with
    | none => rw [hg] at hl; exact hm.look_none (x := k) u64_K Tryz.underlying102 hk hl (zero_hd w) false
    | some x => rw [hg] at hl; exact hm.look_some (x := k) u64_K Tryz.underlying102 hk hl false
/-- what one look tells: some rights, and who gave it -/
theorem CpA.up {w : World} {B c : Nat} {mo : Option Nat} {A : HL} (h : CpA w B c mo A) {k : Nat} (hk : u64Ok k) : ∃ r : Nat, (Instr.lookup 102 (.map mo) (.int .u64 (k : Int)) false).run Tryz.prog w = .ok (.agg #[.int .u8 (r : Int), .int .u64 (upH A k : Int)]) w := by
  obtain ⟨⟨l, h1, h2, _⟩, _⟩ := h
  refine ⟨((getC k l).getD (0, 0)).1, (h1.look1 hk).trans ?_⟩
  have : ((getC k l).getD (0, 0)).2 = upH A k := by
    unfold upH
    rw [h2]
    cases atH A k <;> rfl
  rw [← this]
  rfl
theorem CpA.keep {w w' : World} {B c : Nat} {mo : Option Nat} {A : HL} (h : CpA w B c mo A) {n : Nat} (hc : c < n) (hk : KpX n w w') : CpA w' B c mo A := by
  obtain ⟨⟨l, h1, h2, h3⟩, h4, h5⟩ := h
  refine ⟨⟨l, ⟨h1.box.low hk.2 hc, Nat.le_trans h1.low hk.1.size, fun m hm => ⟨(h1.map m hm).1, (h1.map m hm).2.same ?_⟩, h1.nil, h1.le⟩, h2, h3⟩, h4, h5⟩
  obtain ⟨es, ck, q, _⟩ := (h1.map m hm).2
  exact (hk.1.same m _ q rfl).trans q.symm
theorem CpA.set {w : World} {B c : Nat} {mo : Option Nat} {A : HL} (h : CpA w B c mo A) {b : Nat} {T : TypeId} {cs : Array Value} (hb : CbB w b T cs) (hT : T ≠ 107) (k : Nat) (v : Value) : CpA (w.setCell ⟨b, k, none⟩ v) B c mo A := by
  obtain ⟨⟨l, h1, h2, h3⟩, h4, h5⟩ := h
  have hcb : c ≠ b := fun e => by
    have h6 := h1.box
    have h7 := hb
    unfold CbB at h6 h7
    rw [e, h7] at h6
    injection h6 with h6
    injection h6 with _ h6
    exact hT h6
  refine ⟨⟨l, ⟨h1.box.far hcb v, by simpa using h1.low, fun m hm => ⟨(h1.map m hm).1, (h1.map m hm).2.grown (grown_cell _ b k v) fun e => ?_⟩, h1.nil, h1.le⟩, h2, h3⟩, h4, h5⟩
  injection e with e
  obtain ⟨es, ck, q, _⟩ := (h1.map m hm).2
  have h7 := hb
  unfold CbB at h7
  rw [e, q] at h7
  cases h7
end Go.Proofs.YtnnjmelibmiimaaGreat

namespace Go.Proofs.YtnnjmelibmiimaaGreat
open Go.RowKit Go.Shelf
set_option linter.unusedVariables false
attribute [local go_sem] Oper.semAt_some

end Go.Proofs.YtnnjmelibmiimaaGreat

namespace Go.Proofs.YtnnjmelibmiimaaGreat
open Go.RowKit Go.Shelf
set_option linter.unusedVariables false

end Go.Proofs.YtnnjmelibmiimaaGreat
namespace Go.Proofs.YtnnjmelibmiimaaGreat
open Go.RowKit
set_option linter.unusedVariables false

/-! maps compared with nil -/
theorem eq_mapX1 {T k e : TypeId} (ht : Tryz.prog.underlying T = some (.map k e)) (d m : Nat) (W : World) : (Op.equalIn (d + 1) T (.map (some m)) (.map none)).run Tryz.prog W = .ok false W := by
  unfold Op.equalIn
  simp [run_underlying ht, Result.andThen]
theorem eq_mapX0 {T k e : TypeId} (ht : Tryz.prog.underlying T = some (.map k e)) (d : Nat) (W : World) : (Op.equalIn (d + 1) T (.map none) (.map none)).run Tryz.prog W = .ok true W := by
  unfold Op.equalIn
  simp [run_underlying ht, Result.andThen]
theorem map_neX {T k e : TypeId} (ht : Tryz.prog.underlying T = some (.map k e)) (m : Nat) (W : World) : (binOp .eql T (.map (some m)) (.map none)).run Tryz.prog W = .ok (.bool false) W := by
  have h := eq_mapX1 ht 9999 m W
  simp only [binOp, Op.equal, Op.maxDepth, Sem.run_bind, h, Result.andThen_ok, Sem.run_pure]
theorem map_eqX {T k e : TypeId} (ht : Tryz.prog.underlying T = some (.map k e)) (W : World) : (binOp .eql T (.map none) (.map none)).run Tryz.prog W = .ok (.bool true) W := by
  have h := eq_mapX0 ht 9999 W
  simp only [binOp, Op.equal, Op.maxDepth, Sem.run_bind, h, Result.andThen_ok, Sem.run_pure]

/-! keys -/
abbrev Ky := List UInt8
def k8 (l : List Nat) : Ky := l.map UInt8.ofNat
theorem strOf_k8 (l : List Nat) : Value.string (strOf l) = encStr (k8 l) := rfl
theorem k8_inj {a b : List Nat} (ha : Byt a) (hb : Byt b) (h : k8 a = k8 b) : a = b := (strOf_inj ha hb).1 (by unfold strOf; unfold k8 at h; rw [h])
theorem k8_len (l : List Nat) : (k8 l).length = l.length := by simp [k8]
def kyOk (l : Ky) : Prop := l.length ≤ 32
theorem ky_K : KeyK Tryz.prog 9 encStr kyOk where
  keyed := Maps.string_keyed Tryz.underlying9
  of := fun {x} h => ⟨_, WideMaps.keyOf_string_mk Tryz.underlying9 (s := ⟨x.toArray⟩) (by
    have e : (⟨x.toArray⟩ : ByteArray).size = x.length := by show x.toArray.size = x.length; simp
    rw [e]
    unfold kyOk at h
    exact Nat.le_trans h (by decide))⟩
  inj := fun {x y} h => by simpa [encStr] using h
def u32V (n : Nat) : Value := .int .u32 (n : Int)
def u32Ok (n : Nat) : Prop := n < 4294967296
theorem u32_wf {n : Nat} (h : u32Ok n) : (Lit.int .u32 (n : Int)).wf = true := by
  unfold u32Ok at h
  have e3 : IntKind.u32.min = 0 := rfl
  have e4 : IntKind.u32.max = 4294967295 := rfl
  simp only [Lit.wf, Bool.and_eq_true, decide_eq_true_eq]
  omega
theorem u32_K : KeyK Tryz.prog 22 u32V u32Ok where
  keyed := Maps.int_keyed Tryz.underlying22
  of := fun h => ⟨_, Maps.keyOf_int_mk Tryz.underlying22 (u32_wf h)⟩
  inj := fun {x y} h => by
    unfold u32V at h
    injection h with _ h
    omega

/-! whose a block is -/
abbrev Tg := Nat → Option (Nat × Nat)
/-- a step that writes blocks of some owners alone; old blocks stay whose they were -/
structure Stp (P : Nat × Nat → Prop) (w : World) (O : Tg) (w' : World) (O' : Tg) : Prop where
  fr : Fr w w' (fun k => ∃ t, O k = some t ∧ P t)
  tg : ∀ k, k < w.heap.size → O' k = O k
section
variable {P Q : Nat × Nat → Prop} {w w1 w' : World} {O O1 O' : Tg}
theorem Stp.size (h : Stp P w O w' O') : w.heap.size ≤ w'.heap.size := h.fr.size
theorem Stp.refl (P : Nat × Nat → Prop) (w : World) (O : Tg) : Stp P w O w O := ⟨Fr.of (Below.refl _ _) _, fun _ _ => rfl⟩
theorem Stp.tr (h : Stp P w O w1 O1) (k : Stp P w1 O1 w' O') : Stp P w O w' O' :=
  ⟨⟨k.fr.os.trans h.fr.os, k.fr.tape.trans h.fr.tape, k.fr.output.trans h.fr.output, Nat.le_trans h.size k.size, fun i hi hn =>
    (k.fr.block i (Nat.lt_of_lt_of_le hi h.size) (fun ⟨t, e, p⟩ => hn ⟨t, by rw [← h.tg i hi]; exact e, p⟩)).trans (h.fr.block i hi hn)⟩,
   fun i hi => (k.tg i (Nat.lt_of_lt_of_le hi h.size)).trans (h.tg i hi)⟩
theorem Stp.imp (h : Stp P w O w' O') (hi : ∀ t, P t → Q t) : Stp Q w O w' O' := ⟨h.fr.imp fun k ⟨t, e, p⟩ => ⟨t, e, hi t p⟩, h.tg⟩
theorem Stp.of (hb : Below w.heap.size w w') (P : Nat × Nat → Prop) (hO : ∀ k, k < w.heap.size → O' k = O k) : Stp P w O w' O' := ⟨Fr.of hb _, hO⟩
theorem Stp.below {B : Nat} {a : World} (h : Stp P w O w' O') (hb : Below B a w) (hs : B ≤ w.heap.size) (hO : ∀ k, k < B → O k = none) : Below B a w' :=
  Fr.below h.fr (fun k ⟨t, e, _⟩ => Nat.le_of_not_lt fun hk => by rw [hO k hk] at e; cases e) hb hs
/-- what is not written is as it was -/
theorem Stp.im (h : Stp P w O w' O') {k : Nat} (hk : k < w.heap.size) (hn : O k = none) : w'.heap[k]? = w.heap[k]? ∧ O' k = none :=
  ⟨h.fr.block k hk (fun ⟨t, e, _⟩ => by rw [hn] at e; cases e), (h.tg k hk).trans hn⟩
theorem Stp.ot (h : Stp P w O w' O') {k : Nat} {τ : Nat × Nat} (hk : k < w.heap.size) (ho : O k = some τ) (hn : ¬ P τ) : w'.heap[k]? = w.heap[k]? ∧ O' k = some τ :=
  ⟨h.fr.block k hk (fun ⟨t, e, p⟩ => by rw [ho] at e; injection e with e; exact hn (e ▸ p)), (h.tg k hk).trans ho⟩
end

/-- bytes that are not written again -/
def ImB (w : World) (O : Tg) (v : Value) (l : List Nat) : Prop := ∃ A n c, v = .slice A n c ∧ n ≤ 100000 ∧ IsB w A n c l ∧ (0 < n → ∀ x, A = some x → x.block < w.heap.size ∧ O x.block = none)
theorem isB_frZ {w W : World} {A : Option Addr} {n c : Nat} {l : List Nat} {F : Nat → Prop} (h : IsB w A n c l) (hf : Fr w W F) (hn : 0 < n → ∀ x, A = some x → ¬ F x.block) : IsB W A n c l := by
  by_cases h0 : 0 < n
  · exact h.fr hf (hn h0)
  · obtain rfl : n = 0 := by omega
    have hl := h.len
    obtain rfl : l = [] := List.eq_nil_of_length_eq_zero hl
    obtain ⟨⟨k1, k2, k3, k4, k5⟩, k6⟩ := h
    refine ⟨⟨k1, k2, k3, k4, ?_⟩, k6⟩
    rcases k5 with k5 | ⟨X, k5, k5l, _⟩
    · exact .inl k5
    · exact .inr ⟨X, k5, fun h => Nat.lt_of_lt_of_le (k5l h) hf.size, fun i hi => absurd hi (Nat.not_lt_zero i)⟩
section
variable {P : Nat × Nat → Prop} {w w' : World} {O O' : Tg}
theorem ImB.stp {v : Value} {l : List Nat} (h : ImB w O v l) (s : Stp P w O w' O') : ImB w' O' v l := by
  obtain ⟨A, n, c, rfl, h0, h1, h2⟩ := h
  refine ⟨A, n, c, rfl, h0, isB_frZ h1 s.fr (fun hn x hx ⟨t, e, _⟩ => ?_), fun hn x hx => ?_⟩
  · rw [(h2 hn x hx).2] at e; cases e
  · obtain ⟨k1, k2⟩ := h2 hn x hx
    exact ⟨Nat.lt_of_lt_of_le k1 s.size, (s.tg _ k1).trans k2⟩
/-- a map: keys and values -/
abbrev Bk2 := List (Ky × List Nat)
def BvL (w : World) (O : Tg) : List (Ky × Value) → Bk2 → Prop
  | [], [] => True
  | p :: ps, q :: qs => (p.1 = q.1 ∧ ImB w O p.2 q.2) ∧ BvL w O ps qs
  | [], _ :: _ => False
  | _ :: _, [] => False
theorem BvL.stp (s : Stp P w O w' O') : ∀ {es : List (Ky × Value)} {l : Bk2}, BvL w O es l → BvL w' O' es l
  | [], [], _ => trivial
  | p :: ps, q :: qs, h => ⟨⟨h.1.1, h.1.2.stp s⟩, BvL.stp s h.2⟩
  | [], _ :: _, h => h.elim
  | _ :: _, [], h => h.elim
theorem BvL.keys : ∀ {es : List (Ky × Value)} {l : Bk2}, BvL w O es l → es.map (·.1) = l.map (·.1)
  | [], [], _ => rfl
  | p :: ps, q :: qs, h => by rw [List.map_cons, List.map_cons, h.1.1, BvL.keys h.2]
  | [], _ :: _, h => h.elim
  | _ :: _, [], h => h.elim
theorem BvL.len {es : List (Ky × Value)} {l : Bk2} (h : BvL w O es l) : es.length = l.length := by
  have := congrArg List.length h.keys
  simpa using this
theorem BvL.snoc {v : Value} {x : Ky} {u : List Nat} (hv : ImB w O v u) : ∀ {es : List (Ky × Value)} {l : Bk2}, BvL w O es l → BvL w O (es ++ [(x, v)]) (l ++ [(x, u)])
  | [], [], _ => ⟨⟨rfl, hv⟩, trivial⟩
  | p :: ps, q :: qs, h => ⟨h.1, BvL.snoc hv h.2⟩
  | [], _ :: _, h => h.elim
  | _ :: _, [], h => h.elim
theorem BvL.at : ∀ {es : List (Ky × Value)} {l : Bk2}, BvL w O es l → ∀ (i : Nat) (p : Ky × Value), es[i]? = some p → ∃ q, l[i]? = some q ∧ p.1 = q.1 ∧ ImB w O p.2 q.2
  | [], [], _, i, p, h => by simp at h
  | e :: es, q :: qs, h, 0, p, hp => by simp at hp; subst hp; exact ⟨q, rfl, h.1⟩
  | e :: es, q :: qs, h, i + 1, p, hp => by
    rw [List.getElem?_cons_succ] at hp
    obtain ⟨q', h1, h2⟩ := BvL.at h.2 i p hp
    exact ⟨q', by rw [List.getElem?_cons_succ]; exact h1, h2⟩
  | [], _ :: _, h, _, _, _ => h.elim
  | _ :: _, [], h, _, _, _ => h.elim
/-- the plain look-up, and what a put and a drop make of the entries -/
def getK (x : Ky) (l : Bk2) : Option (List Nat) := (l.find? fun p => decide (p.1 = x)).map (·.2)
def dropK (x : Ky) (l : Bk2) : Bk2 := l.filter fun p => !decide (p.1 = x)
def putK (x : Ky) (v : List Nat) (l : Bk2) : Bk2 := if (getK x l).isSome then l.map fun p => if p.1 = x then (x, v) else p else l ++ [(x, v)]
theorem BvL.look (x : Ky) : ∀ {es : List (Ky × Value)} {l : Bk2}, BvL w O es l → (lookL x es = none ∧ getK x l = none) ∨ ∃ v u, lookL x es = some v ∧ getK x l = some u ∧ ImB w O v u
  | [], [], _ => .inl ⟨rfl, rfl⟩
  | p :: ps, q :: qs, h => by
    unfold lookL getK
    by_cases e : p.1 = x
    · have e2 : q.1 = x := by rw [← h.1.1]; exact e
      rw [List.find?_cons_of_pos (by simpa using e), List.find?_cons_of_pos (by simpa using e2)]
      exact .inr ⟨_, _, rfl, rfl, h.1.2⟩
    · have e2 : ¬ q.1 = x := by rw [← h.1.1]; exact e
      rw [List.find?_cons_of_neg (by simpa using e), List.find?_cons_of_neg (by simpa using e2)]
      exact BvL.look x h.2
  | [], _ :: _, h => h.elim
  | _ :: _, [], h => h.elim
theorem BvL.map {x : Ky} {v : Value} {u : List Nat} (hv : ImB w O v u) : ∀ {es : List (Ky × Value)} {l : Bk2}, BvL w O es l → BvL w O (es.map fun p => if p.1 = x then (x, v) else p) (l.map fun p => if p.1 = x then (x, u) else p)
  | [], [], _ => trivial
  | p :: ps, q :: qs, h => by
    rw [List.map_cons, List.map_cons]
    refine ⟨?_, BvL.map hv h.2⟩
    by_cases e : p.1 = x
    · have e2 : q.1 = x := by rw [← h.1.1]; exact e
      rw [if_pos e, if_pos e2]
      exact ⟨rfl, hv⟩
    · have e2 : ¬ q.1 = x := by rw [← h.1.1]; exact e
      rw [if_neg e, if_neg e2]
      exact h.1
  | [], _ :: _, h => h.elim
  | _ :: _, [], h => h.elim
theorem BvL.put {x : Ky} {v : Value} {u : List Nat} (hv : ImB w O v u) {es : List (Ky × Value)} {l : Bk2} (h : BvL w O es l) : BvL w O (putL x v es) (putK x u l) := by
  unfold putL putK
  rcases h.look x with ⟨h1, h2⟩ | ⟨v', u', h1, h2, _⟩
  · rw [h1, h2]
    exact h.snoc hv
  · rw [h1, h2]
    exact h.map hv
theorem BvL.drop (x : Ky) : ∀ {es : List (Ky × Value)} {l : Bk2}, BvL w O es l → BvL w O (dropL x es) (dropK x l)
  | [], [], _ => trivial
  | p :: ps, q :: qs, h => by
    unfold dropL dropK
    by_cases e : p.1 = x
    · have e2 : q.1 = x := by rw [← h.1.1]; exact e
      rw [List.filter_cons_of_neg (by simpa using e), List.filter_cons_of_neg (by simpa using e2)]
      exact BvL.drop x h.2
    · have e2 : ¬ q.1 = x := by rw [← h.1.1]; exact e
      rw [List.filter_cons_of_pos (by simpa using e), List.filter_cons_of_pos (by simpa using e2)]
      exact ⟨h.1, BvL.drop x h.2⟩
  | [], _ :: _, h => h.elim
  | _ :: _, [], h => h.elim
end
theorem getK_mem {x : Ky} {l : Bk2} {v : List Nat} (h : getK x l = some v) : (x, v) ∈ l := by
  unfold getK at h
  obtain ⟨p, hp, rfl⟩ := Option.map_eq_some_iff.1 h
  have h1 := List.mem_of_find?_eq_some hp
  have h2 := List.find?_some hp
  simp only [decide_eq_true_eq] at h2
  subst h2
  exact h1
theorem getK_of {x : Ky} {v : List Nat} : ∀ {l : Bk2}, (l.map (·.1)).Nodup → (x, v) ∈ l → getK x l = some v
  | p :: r, hn, h => by
    rw [List.map_cons, List.nodup_cons] at hn
    unfold getK
    rcases List.mem_cons.1 h with rfl | h'
    · simp
    · have hne : p.1 ≠ x := fun e1 => hn.1 (by rw [e1]; exact List.mem_map.2 ⟨_, h', rfl⟩)
      rw [List.find?_cons_of_neg (by simpa using hne)]
      exact getK_of hn.2 h'
theorem getK_perm {x : Ky} {l S : Bk2} (hp : l.Perm S) (hn : (l.map (·.1)).Nodup) : getK x l = getK x S := by
  have hn2 : (S.map (·.1)).Nodup := (hp.map _).nodup_iff.1 hn
  cases h : getK x S with
  | none =>
    cases h2 : getK x l with
    | none => rfl
    | some v =>
      have := getK_of hn2 (hp.mem_iff.1 (getK_mem h2))
      rw [h] at this
      cases this
  | some v => exact getK_of hn (hp.mem_iff.2 (getK_mem h))
/-- a book: a map that is not written again (or one that is being made: tag) -/
def BokB (w : World) (O : Tg) (b : Nat) (S : Bk2) : Prop := ∃ es l, MapB encStr kyOk w b es ∧ BvL w O es l ∧ l.Perm S
theorem BokB.look {w : World} {O : Tg} {b : Nat} {S : Bk2} (h : BokB w O b S) (x : Ky) (hx : kyOk x) :
    (getK x S = none ∧ ∀ W, W.heap[b]? = w.heap[b]? → ∀ z, (zeroValue 31).run Tryz.prog W = .ok z W → ∀ t c, Tryz.prog.underlying t = some (.map 9 31) → (Instr.lookup t (.map (some b)) (encStr x) c).run Tryz.prog W = .ok (if c then .tuple #[z, .bool false] else z) W) ∨
    ∃ v u, getK x S = some u ∧ ImB w O v u ∧ ∀ W, W.heap[b]? = w.heap[b]? → ∀ t c, Tryz.prog.underlying t = some (.map 9 31) → (Instr.lookup t (.map (some b)) (encStr x) c).run Tryz.prog W = .ok (if c then .tuple #[v, .bool true] else v) W := by
  obtain ⟨es, l, h1, h2, h3⟩ := h
  have hn : (l.map (·.1)).Nodup := by rw [← h2.keys]; exact h1.nodup ky_K
  rcases h2.look x with ⟨h4, h5⟩ | ⟨v, u, h4, h5, h6⟩
  · exact .inl ⟨by rw [← getK_perm h3 hn, h5], fun W hW z hz t c ht => (h1.same hW).look_none ky_K ht hx h4 hz c⟩
  · exact .inr ⟨v, u, by rw [← getK_perm h3 hn, h5], h6, fun W hW t c ht => (h1.same hW).look_some ky_K ht hx h4 c⟩
theorem BokB.lt {w : World} {O : Tg} {b : Nat} {S : Bk2} (h : BokB w O b S) : b < w.heap.size := by
  obtain ⟨es, l, h1, _⟩ := h
  exact h1.lt
theorem BokB.stp {P : Nat × Nat → Prop} {w w' : World} {O O' : Tg} {b : Nat} {S : Bk2} (h : BokB w O b S) (hO : O b = none) (s : Stp P w O w' O') : BokB w' O' b S := by
  obtain ⟨es, l, h1, h2, h3⟩ := h
  exact ⟨es, l, h1.same (s.im h1.lt hO).1, h2.stp s, h3⟩
end Go.Proofs.YtnnjmelibmiimaaGreat
namespace Go.Proofs.YtnnjmelibmiimaaGreat
open Go.RowKit
set_option linter.unusedVariables false
set_option linter.unusedSimpArgs false

/-- a tenant, plainly: number, secret, quota, map, handles, snapshots (released or not), turned -/
structure TnP where
  n : Nat
  sec : List Nat
  q : Nat
  now : Bk2
  A : HL
  sn : List (Bk2 × Bool)
  tu : Bool
/-- the snapshots that are not released, in memory -/
structure SnB (w : World) (O : Tg) (es : List (Nat × Value)) (sn : List (Bk2 × Bool)) : Prop where
  fwd : ∀ p ∈ es, ∃ i S nb, p.1 = i + 1 ∧ sn[i]? = some (S, false) ∧ p.2 = .map (some nb) ∧ BokB w O nb S ∧ O nb = none
  bwd : ∀ (i : Nat) (S : Bk2), sn[i]? = some (S, false) → (lookL (i + 1) es).isSome = true
/-- a tenant in memory -/
structure TnM (w : World) (O : Tg) (s b : Nat) (t : TnP) (c : Nat) (mo : Option Nat) (sm nb : Nat) (es : List (Nat × Value)) : Prop where
  box : CbB w b 82 #[.string (strOf t.sec), .int .i64 (t.q : Int), .map (some nb), .pointer (some ⟨c, 0, none⟩), .map (some sm), .int .u64 (t.sn.length : Int), .bool t.tu]
  now : BokB w O nb t.now
  nowO : O nb = none
  caps : CpA w 0 c mo t.A
  snm : MapB u64V u64Ok w sm es
  sns : SnB w O es t.sn
  tb : O b = some (s, t.n)
  tc : O c = some (s, t.n)
  tm : ∀ m, mo = some m → O m = some (s, t.n)
  ts : O sm = some (s, t.n)
  ne : mo ≠ some sm
def TnB (w : World) (O : Tg) (s b : Nat) (t : TnP) : Prop := ∃ c mo sm nb es, TnM w O s b t c mo sm nb es
/-- what is so of every tenant -/
structure TnOk (t : TnP) : Prop where
  n1 : 1 ≤ t.n
  n32 : t.n < 4294967296
  sec : Byt t.sec
  q1 : 1 ≤ t.q
  q2 : t.q ≤ 1000
def ptrV (b : Nat) : Value := .pointer (some ⟨b, 0, none⟩)
/-- a store in memory -/
structure IdM (w : World) (O : Tg) (s blocks : Nat) (T : List TnP) (m : Nat) (bs : List (Nat × TnP)) : Prop where
  box : CbB w s 64 #[.int .i64 (blocks : Int), .map (some m)]
  map : MapB u32V u32Ok w m (bs.map fun x => (x.2.n, ptrV x.1))
  prm : (bs.map (·.2)).Perm T
  all : ∀ x ∈ bs, TnB w O s x.1 x.2
  ok : ∀ x ∈ bs, TnOk x.2
  os : O s = some (s, 0)
  om : O m = some (s, 0)
  pos : 0 < s
def IdB (w : World) (O : Tg) (s blocks : Nat) (T : List TnP) : Prop := ∃ m bs, IdM w O s blocks T m bs
section
variable {P : Nat × Nat → Prop} {w w' : World} {O O' : Tg} {s : Nat}
theorem SnB.stp {es : List (Nat × Value)} {sn : List (Bk2 × Bool)} (h : SnB w O es sn) (k : Stp P w O w' O') : SnB w' O' es sn :=
  ⟨fun p hp => by
    obtain ⟨i, S, nb, h1, h2, h3, h4, h5⟩ := h.fwd p hp
    obtain ⟨_, _, h6, _⟩ := id h4
    exact ⟨i, S, nb, h1, h2, h3, h4.stp h5 k, (k.im h6.lt h5).2⟩, h.bwd⟩
theorem CpA.ot {c : Nat} {mo : Option Nat} {A : HL} {τ : Nat × Nat} (h : CpA w 0 c mo A) (k : Stp P w O w' O') (hc : O c = some τ) (hm : ∀ m, mo = some m → O m = some τ) (hn : ¬ P τ) : CpA w' 0 c mo A := by
  obtain ⟨⟨l, h1, h2⟩, h3, h4⟩ := h
  have hb : CbB w' c 107 _ := (k.ot h1.box.lt hc hn).1.trans h1.box
  exact ⟨⟨l, ⟨hb, Nat.zero_le _, fun m hm' => ⟨Nat.zero_le _, (h1.map m hm').2.same (k.ot (h1.map m hm').2.lt (hm m hm') hn).1⟩, h1.nil, h1.le⟩, h2⟩, h3, h4⟩
theorem CpA.lt {c : Nat} {mo : Option Nat} {A : HL} (h : CpA w 0 c mo A) : c < w.heap.size ∧ ∀ m, mo = some m → m < w.heap.size := by
  obtain ⟨⟨l, h1, h2⟩, h3, h4⟩ := h
  exact ⟨h1.box.lt, fun m hm => (h1.map m hm).2.lt⟩
theorem TnM.stp {b c sm nb : Nat} {mo : Option Nat} {es : List (Nat × Value)} {t : TnP} (h : TnM w O s b t c mo sm nb es) (k : Stp P w O w' O') (hn : ¬ P (s, t.n)) : TnM w' O' s b t c mo sm nb es := by
  have hl := h.caps.lt
  obtain ⟨_, _, hnb, _⟩ := id h.now
  exact ⟨(k.ot h.box.lt h.tb hn).1.trans h.box, h.now.stp h.nowO k, (k.im hnb.lt h.nowO).2, h.caps.ot k h.tc h.tm hn, h.snm.same (k.ot h.snm.lt h.ts hn).1, h.sns.stp k,
    (k.ot h.box.lt h.tb hn).2, (k.ot hl.1 h.tc hn).2, fun m hm => (k.ot (hl.2 m hm) (h.tm m hm) hn).2, (k.ot h.snm.lt h.ts hn).2, h.ne⟩
theorem TnB.stp {b : Nat} {t : TnP} (h : TnB w O s b t) (k : Stp P w O w' O') (hn : ¬ P (s, t.n)) : TnB w' O' s b t := by
  obtain ⟨c, mo, sm, nb, es, h⟩ := h
  exact ⟨c, mo, sm, nb, es, h.stp k hn⟩
/-- a step that writes nothing of the store's -/
theorem IdM.stp {blocks m : Nat} {T : List TnP} {bs : List (Nat × TnP)} (h : IdM w O s blocks T m bs) (k : Stp P w O w' O') (hn : ∀ i, ¬ P (s, i)) : IdM w' O' s blocks T m bs :=
  ⟨(k.ot h.box.lt h.os (hn 0)).1.trans h.box, h.map.same (k.ot h.map.lt h.om (hn 0)).1, h.prm, fun x hx => (h.all x hx).stp k (hn _), h.ok, (k.ot h.box.lt h.os (hn 0)).2, (k.ot h.map.lt h.om (hn 0)).2, h.pos⟩
theorem IdB.stp {blocks : Nat} {T : List TnP} (h : IdB w O s blocks T) (k : Stp P w O w' O') (hn : ∀ i, ¬ P (s, i)) : IdB w' O' s blocks T := by
  obtain ⟨m, bs, h⟩ := h
  exact ⟨m, bs, h.stp k hn⟩
theorem IdB.ab {blocks : Nat} {T : List TnP} (h : IdB w O s blocks T) (hb : Below w.heap.size w w') : IdB w' O s blocks T := h.stp (Stp.of hb (fun _ => False) fun _ _ => rfl) fun _ h => h
end

/-! answers -/
def ansE (e : Int) : Array Value := #[.int .i64 e, .int .u64 0, .int .u64 0, .slice none 0 0, .slice none 0 0, .int .i64 0, .slice none 0 0]
theorem szAns : (Tryz.prog.info? 40).map (·.size) = some 7 := by kernel_rfl
set_option maxRecDepth 100000 in
theorem ans_results {fn : Func} {p : Tmp} (h : fn.results = #[.cell p 40]) (tmps : Array Value) (W : World) (g : Nat) (cs : Array Value) (hp : tmps.getD p undef = .pointer (some ⟨g, 0, none⟩)) (hg : CbB W g 40 cs) (hs : cs.size = 7) :
    (results fn tmps).run Tryz.prog W = .ok (.agg cs) W :=
  results_cell_row h tmps W g 40 cs (0, 0) _ hp hg Tryz.underlying40 rfl (by rw [hs]; exact szAns)
set_option maxRecDepth 100000 in
theorem fails_any (e : Int) (w : World) : Calls Tryz.prog 26 #[.int .i64 e] w fun r w' => r = .returned (.agg (ansE e)) ∧ Below w.heap.size w w' := by
  go_enter Tryz.func26, Tryz.ntmps26
  go_wp2_with fail
  exact bodyPost_ret (ans_results Tryz.results26 _ _ w.heap.size (ansE e) rfl (CbB.new _ _ _) rfl) rfl ⟨rfl, (Below.refl _ _).alloc (Nat.le_refl _) _⟩
set_option maxRecDepth 100000 in
theorem none_nil (w : World) : Calls Tryz.prog 25 #[.pointer none] w fun r w' => r = .returned (.bool true) ∧ w = w' := by
  go_enter Tryz.func25, Tryz.ntmps25
  go_wp2_with fail
  go_ret
  exact ⟨rfl, rfl⟩
set_option maxRecDepth 100000 in
theorem none_zero (g : Nat) (v : Value) (w : World) (h : CbB w g 64 #[v, .map none]) : Calls Tryz.prog 25 #[.pointer (some ⟨g, 0, none⟩)] w fun r w' => r = .returned (.bool true) ∧ w = w' := by
  have c1 := h.cell (k := 1) rfl
  have hq := fun W => map_eqX Tryz.underlying62 W
  clear h
  go_enter Tryz.func25, Tryz.ntmps25
  go_wp2_with fail
  go_ret
  exact ⟨rfl, rfl⟩
set_option maxRecDepth 100000 in
theorem none_no (g m : Nat) (v : Value) (w : World) (h : CbB w g 64 #[v, .map (some m)]) : Calls Tryz.prog 25 #[.pointer (some ⟨g, 0, none⟩)] w fun r w' => r = .returned (.bool false) ∧ w = w' := by
  have c1 := h.cell (k := 1) rfl
  have hq := fun m W => map_neX Tryz.underlying62 m W
  clear h
  go_enter Tryz.func25, Tryz.ntmps25
  go_wp2_with fail
  go_ret
  exact ⟨rfl, rfl⟩
end Go.Proofs.YtnnjmelibmiimaaGreat
namespace Go.Proofs.YtnnjmelibmiimaaGreat
open Go.RowKit
set_option linter.unusedVariables false
set_option linter.unusedSimpArgs false

section
variable {P : Program} {k e t : TypeId} {κ : Type} {kv : κ → Value} {ok : κ → Prop} {w : World} {b : Nat} {l : List (κ × Value)} {ops : Array Oper} {rest : List Oper} {o : Oper} {a : Act} {Q : Exit → Act → World → Prop}
end
def ckV (n : Int) : Value := .int .i64 n
def ckOk (n : Int) : Prop := (Lit.int .i64 n).wf = true
theorem ck_K : KeyK Tryz.prog 30 ckV ckOk where
  keyed := Maps.int_keyed Tryz.underlying30
  of := fun h => ⟨_, Maps.keyOf_int_mk Tryz.underlying30 h⟩
  inj := fun {x y} h => by
    unfold ckV at h
    injection h with _ h
theorem zero_how {w : World} : (zeroValue 70).run Tryz.prog w = .ok .nilFunc w := by kernel_rfl
def howL : List (Int × Value) := [(1, .func (.func 39) #[] #[]), (2, .func (.func 40) #[] #[]), (3, .func (.func 41) #[] #[]), (4, .func (.func 42) #[] #[]), (5, .func (.func 43) #[] #[]), (6, .func (.func 44) #[] #[]), (7, .func (.func 45) #[] #[]), (8, .func (.func 46) #[] #[]), (9, .func (.func 47) #[] #[]), (10, .func (.func 48) #[] #[]), (11, .func (.func 49) #[] #[]), (12, .func (.func 50) #[] #[]), (13, .func (.func 51) #[] #[]), (14, .func (.func 52) #[] #[]), (15, .func (.func 53) #[] #[]), (16, .func (.func 54) #[] #[])]
set_option maxRecDepth 100000 in
set_option maxHeartbeats 4000000 in
theorem how_any (k : Int) (hk : ckOk k) (w : World) : Calls Tryz.prog 27 #[.int .i64 k] w fun r w' => r = .returned ((lookL k howL).getD .nilFunc) ∧ Below w.heap.size w w' := by
  have hmm : ∀ W : World, (Instr.makeMap 100 none).run Tryz.prog W = .ok (.map (some W.heap.size)) (W.alloc (.map #[] 0)) := fun _ => rfl
  have MM : Hid (MapB ckV ckOk (w.alloc (.map #[] 0)) w.heap.size []) := Lib.hid (MapB.new _ _ _)
  have BB : Hid (Below w.heap.size w (w.alloc (.map #[] 0))) := Lib.hid ((Below.refl _ _).alloc (Nat.le_refl _) _)
  go_enter Tryz.func27, Tryz.ntmps27
  go_wp2_with fail
  obtain ⟨w1, hrun, hM, _, _, hB⟩ := MM.out.put ck_K Tryz.underlying100 (x := 1) (show ckOk 1 from rfl) (.func (.func 39) #[] #[])
  replace MM := Lib.hid hM
  replace BB := Lib.hid (hB _ _ BB.out (Nat.le_refl _))
  simp only [ckV] at hrun
  rw [hrun]
  clear hrun hM hB
  go_wp2_with fail
  obtain ⟨w2, hrun, hM, _, _, hB⟩ := MM.out.put ck_K Tryz.underlying100 (x := 2) (show ckOk 2 from rfl) (.func (.func 40) #[] #[])
  replace MM := Lib.hid hM
  replace BB := Lib.hid (hB _ _ BB.out (Nat.le_refl _))
  simp only [ckV] at hrun
  rw [hrun]
  clear hrun hM hB
  go_wp2_with fail
  obtain ⟨w3, hrun, hM, _, _, hB⟩ := MM.out.put ck_K Tryz.underlying100 (x := 3) (show ckOk 3 from rfl) (.func (.func 41) #[] #[])
  replace MM := Lib.hid hM
  replace BB := Lib.hid (hB _ _ BB.out (Nat.le_refl _))
  simp only [ckV] at hrun
  rw [hrun]
  clear hrun hM hB
  go_wp2_with fail
  obtain ⟨w4, hrun, hM, _, _, hB⟩ := MM.out.put ck_K Tryz.underlying100 (x := 4) (show ckOk 4 from rfl) (.func (.func 42) #[] #[])
  replace MM := Lib.hid hM
  replace BB := Lib.hid (hB _ _ BB.out (Nat.le_refl _))
  simp only [ckV] at hrun
  rw [hrun]
  clear hrun hM hB
  go_wp2_with fail
  obtain ⟨w5, hrun, hM, _, _, hB⟩ := MM.out.put ck_K Tryz.underlying100 (x := 5) (show ckOk 5 from rfl) (.func (.func 43) #[] #[])
  replace MM := Lib.hid hM
  replace BB := Lib.hid (hB _ _ BB.out (Nat.le_refl _))
  simp only [ckV] at hrun
  rw [hrun]
  clear hrun hM hB
  go_wp2_with fail
  obtain ⟨w6, hrun, hM, _, _, hB⟩ := MM.out.put ck_K Tryz.underlying100 (x := 6) (show ckOk 6 from rfl) (.func (.func 44) #[] #[])
  replace MM := Lib.hid hM
  replace BB := Lib.hid (hB _ _ BB.out (Nat.le_refl _))
  simp only [ckV] at hrun
  rw [hrun]
  clear hrun hM hB
  go_wp2_with fail
  obtain ⟨w7, hrun, hM, _, _, hB⟩ := MM.out.put ck_K Tryz.underlying100 (x := 7) (show ckOk 7 from rfl) (.func (.func 45) #[] #[])
  replace MM := Lib.hid hM
  replace BB := Lib.hid (hB _ _ BB.out (Nat.le_refl _))
  simp only [ckV] at hrun
  rw [hrun]
  clear hrun hM hB
  go_wp2_with fail
  obtain ⟨w8, hrun, hM, _, _, hB⟩ := MM.out.put ck_K Tryz.underlying100 (x := 8) (show ckOk 8 from rfl) (.func (.func 46) #[] #[])
  replace MM := Lib.hid hM
  replace BB := Lib.hid (hB _ _ BB.out (Nat.le_refl _))
  simp only [ckV] at hrun
  rw [hrun]
  clear hrun hM hB
  go_wp2_with fail
  obtain ⟨w9, hrun, hM, _, _, hB⟩ := MM.out.put ck_K Tryz.underlying100 (x := 9) (show ckOk 9 from rfl) (.func (.func 47) #[] #[])
  replace MM := Lib.hid hM
  replace BB := Lib.hid (hB _ _ BB.out (Nat.le_refl _))
  simp only [ckV] at hrun
  rw [hrun]
  clear hrun hM hB
  go_wp2_with fail
  obtain ⟨w10, hrun, hM, _, _, hB⟩ := MM.out.put ck_K Tryz.underlying100 (x := 10) (show ckOk 10 from rfl) (.func (.func 48) #[] #[])
  replace MM := Lib.hid hM
  replace BB := Lib.hid (hB _ _ BB.out (Nat.le_refl _))
  simp only [ckV] at hrun
  rw [hrun]
  clear hrun hM hB
  go_wp2_with fail
  obtain ⟨w11, hrun, hM, _, _, hB⟩ := MM.out.put ck_K Tryz.underlying100 (x := 11) (show ckOk 11 from rfl) (.func (.func 49) #[] #[])
  replace MM := Lib.hid hM
  replace BB := Lib.hid (hB _ _ BB.out (Nat.le_refl _))
  simp only [ckV] at hrun
  rw [hrun]
  clear hrun hM hB
  go_wp2_with fail
  obtain ⟨w12, hrun, hM, _, _, hB⟩ := MM.out.put ck_K Tryz.underlying100 (x := 12) (show ckOk 12 from rfl) (.func (.func 50) #[] #[])
  replace MM := Lib.hid hM
  replace BB := Lib.hid (hB _ _ BB.out (Nat.le_refl _))
  simp only [ckV] at hrun
  rw [hrun]
  clear hrun hM hB
  go_wp2_with fail
  obtain ⟨w13, hrun, hM, _, _, hB⟩ := MM.out.put ck_K Tryz.underlying100 (x := 13) (show ckOk 13 from rfl) (.func (.func 51) #[] #[])
  replace MM := Lib.hid hM
  replace BB := Lib.hid (hB _ _ BB.out (Nat.le_refl _))
  simp only [ckV] at hrun
  rw [hrun]
  clear hrun hM hB
  go_wp2_with fail
  obtain ⟨w14, hrun, hM, _, _, hB⟩ := MM.out.put ck_K Tryz.underlying100 (x := 14) (show ckOk 14 from rfl) (.func (.func 52) #[] #[])
  replace MM := Lib.hid hM
  replace BB := Lib.hid (hB _ _ BB.out (Nat.le_refl _))
  simp only [ckV] at hrun
  rw [hrun]
  clear hrun hM hB
  go_wp2_with fail
  obtain ⟨w15, hrun, hM, _, _, hB⟩ := MM.out.put ck_K Tryz.underlying100 (x := 15) (show ckOk 15 from rfl) (.func (.func 53) #[] #[])
  replace MM := Lib.hid hM
  replace BB := Lib.hid (hB _ _ BB.out (Nat.le_refl _))
  simp only [ckV] at hrun
  rw [hrun]
  clear hrun hM hB
  go_wp2_with fail
  obtain ⟨w16, hrun, hM, _, _, hB⟩ := MM.out.put ck_K Tryz.underlying100 (x := 16) (show ckOk 16 from rfl) (.func (.func 54) #[] #[])
  replace MM := Lib.hid hM
  replace BB := Lib.hid (hB _ _ BB.out (Nat.le_refl _))
  simp only [ckV] at hrun
  rw [hrun]
  clear hrun hM hB
  go_wp2_with fail
  have M2 : MapB ckV ckOk w16 w.heap.size howL := MM.out
  have hlk : (Instr.lookup 100 (.map (some w.heap.size)) (.int .i64 k) false).run Tryz.prog w16 = .ok ((lookL k howL).getD .nilFunc) w16 := by
    cases hl : lookL k howL with
    | none => simpa [ckV] using M2.look_none (x := k) ck_K Tryz.underlying100 hk hl zero_how false
    | some v => simpa [ckV] using M2.look_some (x := k) ck_K Tryz.underlying100 hk hl false
  obtain ⟨v, hv⟩ : ∃ v, (lookL k howL).getD .nilFunc = v := ⟨_, rfl⟩
  have HV := Lib.hid hv
  rw [hlk, hv]
  clear hlk M2 MM hv
  go_wp2_with fail
  go_ret
  exact ⟨by rw [HV.out]; rfl, BB.out⟩
/-- tags of a new store -/
def newTg (O : Tg) (m s : Nat) : Tg := fun k => if k = m ∨ k = s then some (s, 0) else O k
set_option maxRecDepth 100000 in
theorem idNew_any (blocks : Nat) (h0 : 8 ≤ blocks) (h1 : blocks ≤ 4096) (w : World) (O : Tg) : Calls Tryz.prog 7 #[.int .i64 (blocks : Int)] w fun e w' =>
    e = .returned (.tuple #[.pointer (some ⟨w.heap.size + 1, 0, none⟩), .int .i64 0]) ∧ IdB w' (newTg O w.heap.size (w.heap.size + 1)) (w.heap.size + 1) blocks [] ∧ w'.heap.size = w.heap.size + 2 ∧ Below w.heap.size w w' := by
  have hmm : ∀ W : World, (Instr.makeMap 62 none).run Tryz.prog W = .ok (.map (some W.heap.size)) (W.alloc (.map #[] 0)) := fun _ => rfl
  have d0 : decide ((blocks : Int) < 8) = false := by simp; omega
  have d1 : decide ((4096 : Int) < (blocks : Int)) = false := by simp; omega
  have n0 : ¬ blocks < 8 := by omega
  have n1 : ¬ 4096 < blocks := by omega
  go_enter Tryz.func7, Tryz.ntmps7
  go_wp2_with fail
  go_ret2
  refine ⟨rfl, ⟨w.heap.size, [], ?_⟩, by simp, ((Below.refl _ _).alloc (Nat.le_refl _) _).alloc (by simp) _⟩
  refine ⟨?_, (MapB.new u32V u32Ok w).alloc _, List.Perm.refl _, fun x hx => (by cases hx), fun x hx => (by cases hx), by simp [newTg], by simp [newTg], Nat.succ_pos _⟩
  have := CbB.new (w.alloc (.map #[] 0)) 64 #[.int .i64 (blocks : Int), .map (some w.heap.size)]
  simpa using this
theorem byt16 : Byt (List.replicate 16 97) := fun x hx => by rw [(List.mem_replicate.1 hx).2]; decide
set_option maxRecDepth 100000 in
theorem secret_any (w : World) : Calls Tryz.prog 13 #[] w fun e w' => e = .returned (.slice (some ⟨w.heap.size, 0, none⟩) 16 16) ∧ IsB w' (some ⟨w.heap.size, 0, none⟩) 16 16 (List.replicate 16 97) ∧ Below w.heap.size w w' := by
  have hkc := fun (w : World) (C : Array Value) (n c : Nat) => Lib.run_convert_bytes_const (P := Tryz.prog) w 31 5 C n c Tryz.underlying31 Tryz.underlying5
  go_enter Tryz.func13, Tryz.ntmps13
  go_wp2_with fail
  go_ret
  refine ⟨rfl, isB_marked (t := 5) (l := List.replicate 16 97) (heap_alloc_new w _) byt16 (by simp) (by decide), (Below.refl _ _).alloc (Nat.le_refl _) _⟩
theorem ansE_one (e : Int) : (ansE e).all (·.oneCell') = true := by simp [ansE, Value.oneCell']
theorem szAnsE (e : Int) : (Tryz.prog.info? 40).map (·.size) = some (ansE e).size := szAns
theorem or_half (n h : Nat) (hn : n < 4294967296) (hh : h < 4294967296) : bits .or .u64 ((n : Int) * 4294967296) (h : Int) = ((n * 4294967296 + h : Nat) : Int) := by
  have := or_u64 (n * 4294967296) h (by omega) (by omega)
  rw [Int.natCast_mul] at this
  refine this.trans ?_
  have h2 := Nat.shiftLeft_add_eq_or_of_lt (a := n) (b := h) (i := 32) hh
  rw [Nat.shiftLeft_eq] at h2
  rw [← h2]
def ansH (x : Nat) : Array Value := #[.int .i64 0, .int .u64 (x : Int), .int .u64 0, .slice none 0 0, .slice none 0 0, .int .i64 0, .slice none 0 0]
set_option maxRecDepth 100000 in
theorem handle_yes (n h : Nat) (hn : n < 4294967296) (hh : h < 4294967296) (w : World) : Calls Tryz.prog 77 #[.int .u32 (n : Int), .int .u64 (h : Int), .int .i64 0] w fun r w' => r = .returned (.agg (ansH (n * 4294967296 + h))) ∧ Below w.heap.size w w' := by
  have hor := or_half n h hn hh
  have n0 : (0 : Int) ≤ (n : Int) := by omega
  have n1 : (n : Int) < 4294967296 := by omega
  go_enter Tryz.func77, Tryz.ntmps77
  go_wp2_with fail
  exact bodyPost_ret (ans_results Tryz.results77 _ _ w.heap.size (ansH (n * 4294967296 + h)) rfl (CbB.new _ _ _) rfl) rfl ⟨rfl, (Below.refl _ _).alloc (Nat.le_refl _) _⟩
theorem eq_sl0 (W : World) : (binOp .eql 31 (.slice none 0 0) (.slice none 0 0)).run Tryz.prog W = .ok (.bool true) W := by
  have h : (Op.equalIn 10000 31 (.slice none 0 0) (.slice none 0 0)).run Tryz.prog W = .ok true W := by
    unfold Op.equalIn
    simp [run_underlying Tryz.underlying31, Result.andThen]
  simp only [binOp, Op.equal, Op.maxDepth, Sem.run_bind, h, Result.andThen_ok, Sem.run_pure]
theorem eq_sl1 (x : Addr) (n c : Nat) (W : World) : (binOp .eql 31 (.slice (some x) n c) (.slice none 0 0)).run Tryz.prog W = .ok (.bool false) W := by
  have h : (Op.equalIn 10000 31 (.slice (some x) n c) (.slice none 0 0)).run Tryz.prog W = .ok false W := by
    unfold Op.equalIn
    simp [run_underlying Tryz.underlying31, Result.andThen]
  simp only [binOp, Op.equal, Op.maxDepth, Sem.run_bind, h, Result.andThen_ok, Sem.run_pure]
set_option maxRecDepth 100000 in
theorem bclone_any (A : Option Addr) (n c : Nat) (l : List Nat) (w : World) (h : IsB w A n c l) (hn : n ≤ 100000) : Calls Tryz.prog 37 #[.slice A n c] w fun e w' => ∃ v, e = .returned v ∧ OwB w' w.heap.size v l ∧ Below w.heap.size w w' := by
  have hl := h.len
  cases A with
  | none =>
    obtain ⟨rfl, rfl⟩ := h.none
    obtain rfl : l = [] := List.eq_nil_of_length_eq_zero hl
    have hq := eq_sl0
    clear h hl
    go_enter Tryz.func37, Tryz.ntmps37
    go_wp2_with fail
    go_ret
    exact ⟨_, rfl, OwB.nil _ _, Below.refl _ _⟩
  | some x =>
    obtain ⟨i0, hi0, hz0, hz1, hz2⟩ := info_parts infoU8
    have hq := fun W => eq_sl1 x n c W
    have E0 := Lib.hid (empty_own w)
    have I0 := Lib.hid (h.alloc (.cells #[] 5))
    have B0 : Hid (Below w.heap.size w (w.alloc (.cells #[] 5))) := Lib.hid ((Below.refl _ _).alloc (Nat.le_refl _) _)
    clear h hl
    go_enter Tryz.func37, Tryz.ntmps37
    go_wp2_with (first
      | (refine wpList_appB _ rfl (.tmp 5) (.tmp 6) rfl Tryz.underlying31 hi0 hz0 hz1 hz2 rfl E0.out rfl I0.out rfl (by simp; omega) B0.out.size ?_
         intro v1 w1 hv1 hb1 hg1 hat1
         have V1 : Hid (OwB w1 w.heap.size v1 l) := Lib.hid hv1
         have B1 := Lib.hid (B0.out.trans hb1)
         clear hv1 hb1 hg1 hat1))
    go_ret
    exact ⟨_, rfl, V1.out, B1.out⟩
end Go.Proofs.YtnnjmelibmiimaaGreat
