/-
  CAPS: the plain law: all handles that ever were; what each call answers.
-/
import Derived.Test.YtobjdhpdljiijaaCaB
import Derived.Test.YtobjdhpdljiijaaNm64
namespace Go.Proofs.Ytobjdhpdljiijaa
open Go.RowKit
set_option linter.unusedVariables false

/-- a handle: rights, who gave it, whether it is alive -/
structure Hdl where
  r : Nat
  up : Nat
  on : Bool
abbrev HL := List Hdl
def nthH (A : HL) (h : Nat) : Option Hdl := if h = 0 then none else A[h - 1]?
def atH (A : HL) (h : Nat) : Option Hdl := (nthH A h).filter (·.on)
def upH (A : HL) (k : Nat) : Nat := match atH A k with | some x => x.up | none => 0
def belowF : Nat → HL → Nat → Nat → Bool
  | 0, _, _, _ => false
  | n + 1, A, h, k => upH A k != 0 && (upH A k == h || belowF n A h (upH A k))
def belowH (A : HL) (h k : Nat) : Bool := (atH A h).isSome && belowF A.length A h k
def aliveF : Nat → HL → List Nat
  | _, [] => []
  | k, x :: r => bif x.on then (k + 1) :: aliveF (k + 1) r else aliveF (k + 1) r
def aliveH (A : HL) : List Nat := aliveF 0 A
def putH (A : HL) (r u : Nat) : (Nat × Nat) × HL := if 64 ≤ (aliveH A).length then ((0, 9), A) else ((A.length + 1, 0), A ++ [⟨r, u, true⟩])
def giveH (A : HL) (h r : Nat) : (Nat × Nat) × HL := match atH A h with
  | none => ((0, 7), A)
  | some x => bif noGive x.r || overR r x.r then ((0, 250), A) else putH A r h
def killH (A : HL) (v : Nat) : HL := A.mapIdx fun i x => ⟨x.r, x.up, x.on && !(decide (i + 1 = v) || belowH A v (i + 1))⟩
def mayRv (A : HL) (x : Hdl) (h v : Nat) : Bool := decide (h = v) || (!noGive x.r && belowH A h v)
def revokeH (A : HL) (h v : Nat) : Nat × HL := match atH A h with
  | none => (7, A)
  | some x => match atH A v with
    | none => (7, A)
    | some _ => bif mayRv A x h v then (0, killH A v) else (250, A)
def checkH (A : HL) (h need : Nat) : Nat := match atH A h with
  | none => 7
  | some x => bif overR need x.r then 250 else 0
def rightsH (A : HL) (h : Nat) : Nat × Nat := match atH A h with
  | none => (0, 7)
  | some x => (x.r, 0)
def clearH (A : HL) : HL := A.map fun x => ⟨x.r, x.up, false⟩
/-- who gave a handle came ahead of it, and is alive where it is -/
structure RightA (A : HL) : Prop where
  lt : ∀ (i : Nat) (x : Hdl), A[i]? = some x → x.up ≤ i
  on : ∀ (i : Nat) (x : Hdl), A[i]? = some x → x.on = true → x.up ≠ 0 → (atH A x.up).isSome = true
theorem nthH_succ (A : HL) (i : Nat) : nthH A (i + 1) = A[i]? := by simp [nthH]
theorem nthH_zero (A : HL) : nthH A 0 = none := by simp [nthH]
theorem atH_zero (A : HL) : atH A 0 = none := by simp [atH, nthH]
theorem atH_some {A : HL} {h : Nat} {x : Hdl} : atH A h = some x ↔ 1 ≤ h ∧ A[h - 1]? = some x ∧ x.on = true := by
  unfold atH nthH
  by_cases e : h = 0
  · subst e; simp
  · rw [if_neg e, Option.filter_eq_some_iff]
    constructor
    · rintro ⟨h1, h2⟩; exact ⟨by omega, h1, h2⟩
    · rintro ⟨_, h1, h2⟩; exact ⟨h1, h2⟩
theorem atH_le {A : HL} {h : Nat} {x : Hdl} (e : atH A h = some x) : 1 ≤ h ∧ h ≤ A.length := by
  obtain ⟨h1, h2, _⟩ := atH_some.1 e
  have := (List.getElem?_eq_some_iff.1 h2).1
  exact ⟨h1, by omega⟩
theorem atH_isSome {A : HL} {h : Nat} : (atH A h).isSome = true ↔ ∃ x, 1 ≤ h ∧ A[h - 1]? = some x ∧ x.on = true := by
  rw [Option.isSome_iff_exists]
  constructor
  · rintro ⟨x, hx⟩; exact ⟨x, atH_some.1 hx⟩
  · rintro ⟨x, hx⟩; exact ⟨x, atH_some.2 hx⟩
theorem RightA.upLt {A : HL} (hA : RightA A) (k : Nat) : upH A k = 0 ∨ (upH A k < k ∧ 1 ≤ k ∧ k ≤ A.length ∧ (atH A (upH A k)).isSome = true) := by
  unfold upH
  cases e : atH A k with
  | none => exact .inl rfl
  | some x =>
    obtain ⟨h1, h2, h3⟩ := atH_some.1 e
    have h4 := hA.lt _ _ h2
    have h5 := (atH_le e).2
    by_cases h0 : x.up = 0
    · exact .inl h0
    · exact .inr ⟨by show x.up < k; omega, h1, h5, hA.on _ _ h2 h3 h0⟩
theorem belowF_fuel {A : HL} (hA : RightA A) (h : Nat) : ∀ n m k, k ≤ n → k ≤ m → belowF n A h k = belowF m A h k
  | 0, 0, _, _, _ => rfl
  | 0, m + 1, k, h1, _ => by
    have : k = 0 := by omega
    subst this
    simp [belowF, upH, atH_zero]
  | n + 1, 0, k, _, h2 => by
    have : k = 0 := by omega
    subst this
    simp [belowF, upH, atH_zero]
  | n + 1, m + 1, k, h1, h2 => by
    rcases hA.upLt k with h0 | ⟨h0, _⟩
    · simp [belowF, h0]
    · simp only [belowF]
      rw [belowF_fuel hA h n m (upH A k) (by omega) (by omega)]
/-- one step up -/
theorem belowF_step {A : HL} (hA : RightA A) (h k : Nat) : belowF A.length A h k = (upH A k != 0 && (upH A k == h || belowF A.length A h (upH A k))) := by
  rcases hA.upLt k with h0 | ⟨h0, h1, h2, _⟩
  · cases hl : A.length with
    | zero => simp [belowF, h0]
    | succ n => simp [belowF, h0]
  · obtain ⟨n, hn⟩ : ∃ n, A.length = n + 1 := ⟨A.length - 1, by omega⟩
    rw [belowF_fuel hA h A.length (A.length + 1) k h2 (by omega)]
    simp only [belowF]
theorem aliveF_snoc (x : Hdl) : ∀ (A : HL) (k : Nat), aliveF k (A ++ [x]) = aliveF k A ++ (bif x.on then [k + A.length + 1] else [])
  | [], k => by cases h : x.on <;> simp [aliveF, h]
  | y :: r, k => by
    simp only [List.cons_append, aliveF, aliveF_snoc x r (k + 1), List.length_cons]
    have e : k + 1 + r.length + 1 = k + (r.length + 1) + 1 := by omega
    rw [e]
    cases y.on <;> simp
theorem aliveF_cons (k : Nat) (x : Hdl) (r : HL) : aliveF k (x :: r) = bif x.on then (k + 1) :: aliveF (k + 1) r else aliveF (k + 1) r := rfl
theorem aliveF_mem {n : Nat} : ∀ {A : HL} {k : Nat}, n ∈ aliveF k A ↔ ∃ i x, A[i]? = some x ∧ x.on = true ∧ n = k + i + 1
  | [], k => by simp [aliveF]
  | y :: r, k => by
    have ih := aliveF_mem (n := n) (A := r) (k := k + 1)
    have hl : n ∈ aliveF k (y :: r) ↔ (y.on = true ∧ n = k + 1) ∨ n ∈ aliveF (k + 1) r := by
      rw [aliveF_cons]
      cases hy : y.on <;> simp
    rw [hl, ih]
    constructor
    · rintro (⟨h1, h2⟩ | ⟨i, x, h1, h2, h3⟩)
      · exact ⟨0, y, rfl, h1, by omega⟩
      · exact ⟨i + 1, x, by simpa using h1, h2, by omega⟩
    · rintro ⟨i, x, h1, h2, h3⟩
      cases i with
      | zero =>
        simp only [List.getElem?_cons_zero, Option.some.injEq] at h1
        subst h1
        exact .inl ⟨h2, by omega⟩
      | succ i => exact .inr ⟨i, x, by simpa using h1, h2, by omega⟩
theorem aliveF_asc : ∀ (A : HL) (k : Nat), (aliveF k A).Pairwise (· < ·)
  | [], k => List.Pairwise.nil
  | y :: r, k => by
    have ih := aliveF_asc r (k + 1)
    rw [aliveF_cons]
    cases y.on
    · exact ih
    · refine List.pairwise_cons.2 ⟨fun n hn => ?_, ih⟩
      obtain ⟨i, x, _, _, h3⟩ := aliveF_mem.1 hn
      omega
theorem aliveF_len : ∀ (A : HL) (k : Nat), (aliveF k A).length ≤ A.length
  | [], k => Nat.le_refl _
  | y :: r, k => by
    have ih := aliveF_len r (k + 1)
    rw [aliveF_cons]
    cases y.on
    · exact Nat.le_trans ih (by simp)
    · simpa using ih
theorem aliveH_mem {A : HL} {n : Nat} : n ∈ aliveH A ↔ (atH A n).isSome = true := by
  unfold aliveH
  rw [aliveF_mem, atH_isSome]
  constructor
  · rintro ⟨i, x, h1, h2, rfl⟩; exact ⟨x, by omega, by simpa using h1, h2⟩
  · rintro ⟨x, h1, h2, h3⟩; exact ⟨n - 1, x, h2, h3, by omega⟩
theorem aliveH_asc (A : HL) : (aliveH A).Pairwise (· < ·) := aliveF_asc A 0
theorem aliveH_nodup (A : HL) : (aliveH A).Nodup := (aliveH_asc A).imp fun h => Nat.ne_of_lt h
theorem aliveH_le {A : HL} {n : Nat} (h : n ∈ aliveH A) : 1 ≤ n ∧ n ≤ A.length := by
  obtain ⟨x, hx⟩ := Option.isSome_iff_exists.1 (aliveH_mem.1 h)
  exact atH_le hx
theorem aliveH_snoc (A : HL) (r u : Nat) : aliveH (A ++ [⟨r, u, true⟩]) = aliveH A ++ [A.length + 1] := by
  unfold aliveH
  rw [aliveF_snoc]
  simp
/-- behind one handle more -/
theorem atH_snoc (A : HL) (x : Hdl) (k : Nat) : atH (A ++ [x]) k = if k = A.length + 1 then (bif x.on then some x else none) else atH A k := by
  unfold atH nthH
  by_cases e : k = 0
  · subst e; simp
  · rw [if_neg e, if_neg e]
    by_cases e1 : k = A.length + 1
    · subst e1
      rw [if_pos rfl, List.getElem?_append_right (by omega)]
      cases h : x.on <;> simp [Option.filter, h]
    · rw [if_neg e1]
      by_cases e2 : k - 1 < A.length
      · rw [List.getElem?_append_left e2]
      · rw [List.getElem?_eq_none (by simp; omega), List.getElem?_eq_none (by omega)]
theorem RightA.nil : RightA [] := ⟨fun i x h => by simp at h, fun i x h => by simp at h⟩
theorem RightA.snoc {A : HL} (hA : RightA A) (r u : Nat) (hu : u = 0 ∨ (atH A u).isSome = true) : RightA (A ++ [⟨r, u, true⟩]) := by
  have hle : u ≤ A.length := by
    rcases hu with rfl | h
    · omega
    · obtain ⟨x, hx⟩ := Option.isSome_iff_exists.1 h
      exact (atH_le hx).2
  refine ⟨fun i x h => ?_, fun i x h hon h0 => ?_⟩
  · rcases Nat.lt_or_ge i A.length with hi | hi
    · rw [List.getElem?_append_left hi] at h
      exact hA.lt i x h
    · rw [List.getElem?_append_right hi] at h
      cases hd : i - A.length with
      | zero =>
        rw [hd] at h
        simp only [List.getElem?_cons_zero, Option.some.injEq] at h
        subst h
        show u ≤ i
        omega
      | succ n => rw [hd] at h; simp at h
  · rw [atH_snoc]
    split
    · rfl
    · rcases Nat.lt_or_ge i A.length with hi | hi
      · rw [List.getElem?_append_left hi] at h
        exact hA.on i x h hon h0
      · rw [List.getElem?_append_right hi] at h
        cases hd : i - A.length with
        | zero =>
          rw [hd] at h
          simp only [List.getElem?_cons_zero, Option.some.injEq] at h
          subst h
          rcases hu with h1 | h1
          · exact absurd h1 h0
          · exact h1
        | succ n => rw [hd] at h; simp at h
theorem killH_at (A : HL) (v i : Nat) : (killH A v)[i]? = (A[i]?).map fun x => ⟨x.r, x.up, x.on && !(decide (i + 1 = v) || belowH A v (i + 1))⟩ := by
  unfold killH
  rw [List.getElem?_mapIdx]
theorem killH_len (A : HL) (v : Nat) : (killH A v).length = A.length := by simp [killH]
theorem atH_kill (A : HL) (v k : Nat) : atH (killH A v) k = if k = v || belowH A v k then none else atH A k := by
  unfold atH nthH
  by_cases e : k = 0
  · subst e; simp
  · rw [if_neg e, if_neg e, killH_at]
    have e1 : k - 1 + 1 = k := by omega
    rw [e1]
    cases h : A[k - 1]? with
    | none => simp
    | some x =>
      by_cases h1 : k = v
      · simp [h1, Option.filter]
      · cases h2 : belowH A v k <;> cases h3 : x.on <;> simp [h1, h3, Option.filter]
        cases x
        simp_all
theorem belowH_up {A : HL} (hA : RightA A) {v k : Nat} (hv : (atH A v).isSome = true) (h0 : upH A k ≠ 0) (h : upH A k = v ∨ belowH A v (upH A k) = true) : belowH A v k = true := by
  unfold belowH at h ⊢
  rw [hv, Bool.true_and] at h ⊢
  rw [belowF_step hA]
  simp only [bne_iff_ne, ne_eq, Bool.and_eq_true, Bool.or_eq_true, beq_iff_eq]
  exact ⟨h0, h⟩
theorem RightA.kill {A : HL} (hA : RightA A) (v : Nat) : RightA (killH A v) := by
  refine ⟨fun i x h => ?_, fun i x h hon h0 => ?_⟩
  · rw [killH_at, Option.map_eq_some_iff] at h
    obtain ⟨y, hy, rfl⟩ := h
    exact hA.lt i y hy
  · rw [killH_at, Option.map_eq_some_iff] at h
    obtain ⟨y, hy, rfl⟩ := h
    simp only [Bool.and_eq_true, Bool.not_eq_true', Bool.or_eq_false_iff, decide_eq_false_iff_not] at hon h0 ⊢
    obtain ⟨h1, h2, h3⟩ := hon
    have hup : upH A (i + 1) = y.up := by
      unfold upH
      rw [atH_some.2 ⟨by omega, by simpa using hy, h1⟩]
    rw [atH_kill]
    have hon := hA.on i y hy h1 h0
    cases hv : (atH A v).isSome with
    | false =>
      have hb : ∀ k, belowH A v k = false := fun k => by unfold belowH; rw [hv, Bool.false_and]
      rw [hb]
      by_cases e : y.up = v
      · rw [e, hv] at hon; cases hon
      · simp [e, hon]
    | true =>
      by_cases e : y.up = v
      · have := belowH_up hA (k := i + 1) hv (by rw [hup]; exact h0) (.inl (by rw [hup]; exact e))
        rw [this] at h3; cases h3
      · cases hb : belowH A v y.up with
        | true =>
          have := belowH_up hA (k := i + 1) hv (by rw [hup]; exact h0) (.inr (by rw [hup]; exact hb))
          rw [this] at h3; cases h3
        | false => simp [e, hon]
theorem clearH_at (A : HL) (k : Nat) : atH (clearH A) k = none := by
  unfold atH nthH clearH
  by_cases e : k = 0
  · subst e; simp
  · rw [if_neg e, List.getElem?_map]
    cases A[k - 1]? <;> simp [Option.filter]
theorem clearH_len (A : HL) : (clearH A).length = A.length := by simp [clearH]
theorem RightA.clear {A : HL} (hA : RightA A) : RightA (clearH A) := by
  refine ⟨fun i x h => ?_, fun i x h hon h0 => ?_⟩
  · unfold clearH at h
    rw [List.getElem?_map, Option.map_eq_some_iff] at h
    obtain ⟨y, hy, rfl⟩ := h
    exact hA.lt i y hy
  · unfold clearH at h
    rw [List.getElem?_map, Option.map_eq_some_iff] at h
    obtain ⟨y, hy, rfl⟩ := h
    cases hon
theorem giveH_right {A : HL} (hA : RightA A) (h r : Nat) : RightA (giveH A h r).2 := by
  unfold giveH
  cases e : atH A h with
  | none => exact hA
  | some x =>
    simp only
    cases h1 : (noGive x.r || overR r x.r)
    · simp only [cond_false]
      unfold putH
      split
      · exact hA
      · exact hA.snoc r h (.inr (by rw [e]; rfl))
    · exact hA
theorem putH_right {A : HL} (hA : RightA A) (r : Nat) : RightA (putH A r 0).2 := by
  unfold putH
  split
  · exact hA
  · exact hA.snoc r 0 (.inl rfl)
theorem revokeH_right {A : HL} (hA : RightA A) (h v : Nat) : RightA (revokeH A h v).2 := by
  unfold revokeH
  cases e : atH A h with
  | none => exact hA
  | some x =>
    cases e2 : atH A v with
    | none => exact hA
    | some y =>
      simp only
      cases h1 : mayRv A x h v
      · exact hA
      · exact hA.kill v
end Go.Proofs.Ytobjdhpdljiijaa
