/-
  RUNS OF PAGES: the plain law: pages dropped one by one leave what the document's list of the others is.
-/
import Derived.Test.YtmeakfocppooiaaRnA
namespace Go.Proofs.Ytmeakfocppooiaa
set_option linter.unusedVariables false

/-- runs that rise and do not touch -/
def Rgt (l : RnL) : Prop := l.Pairwise (fun r s => r.2 < s.1) ∧ ∀ r ∈ l, r.1 < r.2
theorem Rgt.right {l : RnL} (h : Rgt l) : rightR l = true := by
  unfold rightR
  rw [List.all_eq_true]
  intro i hi
  rw [List.mem_range] at hi
  unfold rightI
  have hg : ∀ j (hj : j < l.length), l.getD j (0, 0) = l[j] := fun j hj => by rw [List.getD_eq_getElem?_getD, List.getElem?_eq_getElem hj]; rfl
  rw [hg i hi, Bool.and_eq_true]
  refine ⟨decide_eq_true (h.2 _ (List.getElem_mem hi)), ?_⟩
  by_cases h0 : i = 0
  · simp [h0]
  · rw [hg (i - 1) (by omega), Bool.or_eq_true]
    exact .inr (decide_eq_true (List.pairwise_iff_getElem.1 h.1 (i - 1) i (by omega) hi (by omega)))
theorem Rgt.nil : Rgt [] := ⟨List.Pairwise.nil, fun r hr => by cases hr⟩
theorem Rgt.mk (a b : Nat) : Rgt (mkR a b) := by
  unfold mkR
  split
  · exact ⟨List.pairwise_singleton _ _, fun r hr => by rw [List.mem_singleton] at hr; subst hr; assumption⟩
  · exact Rgt.nil
def pagesR (l : RnL) : List Nat := l.flatMap fun r => List.range' r.1 (r.2 - r.1)
theorem pagesR_app (a b : RnL) : pagesR (a ++ b) = pagesR a ++ pagesR b := by unfold pagesR; rw [List.flatMap_append]
theorem pagesR_mk (a b : Nat) : pagesR (mkR a b) = List.range' a (b - a) := by
  unfold mkR
  split
  · simp [pagesR]
  · rw [show b - a = 0 by omega]; rfl
theorem mem_pagesR {l : RnL} {p : Nat} : p ∈ pagesR l ↔ ∃ r ∈ l, r.1 ≤ p ∧ p < r.2 := by
  unfold pagesR
  rw [List.mem_flatMap]
  constructor
  · rintro ⟨r, hr, hp⟩
    rw [List.mem_range'_1] at hp
    exact ⟨r, hr, by omega, by omega⟩
  · rintro ⟨r, hr, h1, h2⟩
    exact ⟨r, hr, List.mem_range'_1.2 ⟨h1, by omega⟩⟩
/-- where a page lies -/
theorem Rgt.split {l : RnL} (h : Rgt l) {p : Nat} (hp : p ∈ pagesR l) : ∃ a r b, l = a ++ r :: b ∧ r.1 ≤ p ∧ p < r.2 ∧ (∀ q ∈ a, q.2 < r.1) ∧ (∀ q ∈ b, r.2 < q.1) := by
  obtain ⟨r, hr, h1, h2⟩ := mem_pagesR.1 hp
  obtain ⟨a, b, rfl⟩ := List.append_of_mem hr
  have h3 := h.1
  rw [List.pairwise_append] at h3
  obtain ⟨_, h4, h5⟩ := h3
  rw [List.pairwise_cons] at h4
  exact ⟨a, r, b, rfl, h1, h2, fun q hq => h5 q hq r (List.mem_cons_self ..), h4.1⟩
theorem place_split {a b : RnL} {r : Nat × Nat} {p : Nat} (h2 : p < r.2) (ha : ∀ q ∈ a, q.2 ≤ p) : placeR (a ++ r :: b) p = a.length := by
  have hlt : a.length < (a ++ r :: b).length := by simp
  unfold placeR
  rw [List.findIdx_eq hlt]
  refine ⟨by simp [h2], fun j hj => ?_⟩
  rw [List.getElem_append_left hj]
  exact decide_eq_false (by have := ha _ (List.getElem_mem hj); omega)
theorem has_split {a b : RnL} {r : Nat × Nat} {p : Nat} (h1 : r.1 ≤ p) (h2 : p < r.2) (ha : ∀ q ∈ a, q.2 ≤ p) : hasR (a ++ r :: b) p = true := by
  unfold hasR
  rw [place_split h2 ha]
  have hg : (a ++ r :: b).getD a.length (0, 0) = r := by rw [List.getD_eq_getElem?_getD]; simp
  rw [hg]
  simp [h1]
theorem drop_split {a b : RnL} {r : Nat × Nat} {p : Nat} (h2 : p < r.2) (ha : ∀ q ∈ a, q.2 ≤ p) : dropP (a ++ r :: b) p = a ++ mkR r.1 p ++ mkR (p + 1) r.2 ++ b := by
  unfold dropP
  rw [place_split h2 ha]
  have hg : (a ++ r :: b).getD a.length (0, 0) = r := by rw [List.getD_eq_getElem?_getD]; simp
  rw [hg]
  have h3 : (a ++ r :: b).take a.length = a := by simp
  have h4 : (a ++ r :: b).drop (a.length + 1) = b := by
    rw [show a ++ r :: b = (a ++ [r]) ++ b by simp, List.drop_append_of_le_length (by simp)]
    simp
  rw [h3, h4]
theorem mkR_mem {a b : Nat} {r : Nat × Nat} (h : r ∈ mkR a b) : r = (a, b) ∧ a < b := by
  unfold mkR at h
  split at h
  · rw [List.mem_singleton] at h
    exact ⟨h, by assumption⟩
  · cases h
theorem Rgt.drop {l : RnL} (h : Rgt l) {p : Nat} (hp : p ∈ pagesR l) : hasR l p = true ∧ Rgt (dropP l p) ∧ pagesR (dropP l p) = (pagesR l).filter (fun q => decide (q ≠ p)) := by
  obtain ⟨a, r, b, rfl, h1, h2, ha, hb⟩ := h.split hp
  have ha' : ∀ q ∈ a, q.2 ≤ p := fun q hq => by have := ha q hq; omega
  refine ⟨has_split h1 h2 ha', ?_, ?_⟩
  · rw [drop_split h2 ha']
    have hp1 := h.1
    rw [List.pairwise_append] at hp1
    obtain ⟨pa, pb, _⟩ := hp1
    rw [List.pairwise_cons] at pb
    have hab : ∀ x ∈ a, ∀ y ∈ b, x.2 < y.1 := fun x hx y hy => by
      have := ha x hx; have := hb y hy; omega
    refine ⟨?_, fun q hq => ?_⟩
    · rw [List.pairwise_append, List.pairwise_append, List.pairwise_append]
      refine ⟨⟨⟨pa, (Rgt.mk _ _).1, fun x hx y hy => ?_⟩, (Rgt.mk _ _).1, fun x hx y hy => ?_⟩, pb.2, fun x hx y hy => ?_⟩
      · obtain ⟨rfl, _⟩ := mkR_mem hy
        exact ha x hx
      · obtain ⟨rfl, _⟩ := mkR_mem hy
        rcases List.mem_append.1 hx with hx | hx
        · have := ha x hx; show x.2 < p + 1; omega
        · obtain ⟨rfl, _⟩ := mkR_mem hx
          show p < p + 1; omega
      · have := hb y hy
        rcases List.mem_append.1 hx with hx | hx
        · rcases List.mem_append.1 hx with hx | hx
          · exact hab x hx y hy
          · obtain ⟨rfl, _⟩ := mkR_mem hx
            show p < y.1; omega
        · obtain ⟨rfl, _⟩ := mkR_mem hx
          show r.2 < y.1; omega
    · rcases List.mem_append.1 hq with hq | hq
      · rcases List.mem_append.1 hq with hq | hq
        · rcases List.mem_append.1 hq with hq | hq
          · exact h.2 q (List.mem_append_left _ hq)
          · obtain ⟨rfl, h3⟩ := mkR_mem hq
            exact h3
        · obtain ⟨rfl, h3⟩ := mkR_mem hq
          exact h3
      · exact h.2 q (List.mem_append_right _ (List.mem_cons_of_mem _ hq))
  · rw [drop_split h2 ha', pagesR_app, pagesR_app, pagesR_app, pagesR_mk, pagesR_mk, show a ++ r :: b = a ++ ([r] ++ b) by simp, pagesR_app, pagesR_app, List.filter_append, List.filter_append]
    have fa : (pagesR a).filter (fun q => decide (q ≠ p)) = pagesR a := List.filter_eq_self.2 fun q hq => by
      obtain ⟨s, hs, h3, h4⟩ := mem_pagesR.1 hq
      have := ha s hs
      exact decide_eq_true (by omega)
    have fb : (pagesR b).filter (fun q => decide (q ≠ p)) = pagesR b := List.filter_eq_self.2 fun q hq => by
      obtain ⟨s, hs, h3, h4⟩ := mem_pagesR.1 hq
      have := hb s hs
      exact decide_eq_true (by omega)
    have fr : (pagesR [r]).filter (fun q => decide (q ≠ p)) = List.range' r.1 (p - r.1) ++ List.range' (p + 1) (r.2 - (p + 1)) := by
      have e1 : pagesR [r] = List.range' r.1 (p - r.1) ++ ([p] ++ List.range' (p + 1) (r.2 - (p + 1))) := by
        have e2 : List.range' r.1 (p - r.1) ++ List.range' p (r.2 - p) = List.range' r.1 (r.2 - r.1) := by
          have := List.range'_append_1 (s := r.1) (m := p - r.1) (n := r.2 - p)
          rw [show r.1 + (p - r.1) = p by omega, show p - r.1 + (r.2 - p) = r.2 - r.1 by omega] at this
          exact this
        have e3 : List.range' p (r.2 - p) = [p] ++ List.range' (p + 1) (r.2 - (p + 1)) := by
          rw [show r.2 - p = (r.2 - (p + 1)) + 1 by omega, List.range'_succ]
          rfl
        unfold pagesR
        rw [← e3, e2]
        simp
      rw [e1, List.filter_append, List.filter_append]
      have g1 : (List.range' r.1 (p - r.1)).filter (fun q => decide (q ≠ p)) = List.range' r.1 (p - r.1) := List.filter_eq_self.2 fun q hq => by
        rw [List.mem_range'_1] at hq
        exact decide_eq_true (by omega)
      have g2 : (List.range' (p + 1) (r.2 - (p + 1))).filter (fun q => decide (q ≠ p)) = List.range' (p + 1) (r.2 - (p + 1)) := List.filter_eq_self.2 fun q hq => by
        rw [List.mem_range'_1] at hq
        exact decide_eq_true (by omega)
      rw [g1, g2]
      simp
    rw [fa, fb, fr]
    simp [List.append_assoc]
/-- the document's list of some pages -/
def stepO (l : RnL) (p : Nat) : RnL := match l.getLast? with
  | some r => if r.2 = p then l.dropLast ++ [(r.1, p + 1)] else l ++ [(p, p + 1)]
  | none => [(p, p + 1)]
def ofR (ps : List Nat) : RnL := ps.foldl stepO []
theorem stepO_far {l : RnL} {p : Nat} (h : ∀ r ∈ l, r.2 < p) : stepO l p = l ++ [(p, p + 1)] := by
  unfold stepO
  cases hl : l.getLast? with
  | none => rw [List.getLast?_eq_none_iff.1 hl]; rfl
  | some r =>
    have := h r (List.mem_of_getLast? hl)
    simp only
    rw [if_neg (by omega)]
theorem stepO_near (l : RnL) (a p : Nat) : stepO (l ++ [(a, p)]) p = l ++ [(a, p + 1)] := by
  unfold stepO
  simp
theorem foldO_run (l : RnL) (a : Nat) : ∀ (k m : Nat), (List.range' (a + m) k).foldl stepO (l ++ [(a, a + m)]) = l ++ [(a, a + m + k)]
  | 0, m => rfl
  | k + 1, m => by
    have ih := foldO_run l a k (m + 1)
    rw [show a + (m + 1) = a + m + 1 by omega] at ih
    rw [List.range'_succ, List.foldl_cons, stepO_near, ih]
    rw [show a + m + 1 + k = a + m + (k + 1) by omega]
theorem foldO {l : RnL} : ∀ {m : RnL}, Rgt (l ++ m) → (pagesR m).foldl stepO l = l ++ m := by
  intro m
  induction m generalizing l with
  | nil => intro _; simp [pagesR]
  | cons r m ih =>
    intro h
    have hr : r.1 < r.2 := h.2 r (by simp)
    have hl : ∀ q ∈ l, q.2 < r.1 := fun q hq => by
      have := h.1
      rw [List.pairwise_append] at this
      exact this.2.2 q hq r (List.mem_cons_self ..)
    rw [show r :: m = [r] ++ m from rfl, pagesR_app, List.foldl_append]
    have h1 : (pagesR [r]).foldl stepO l = l ++ [r] := by
      have e : pagesR [r] = r.1 :: List.range' (r.1 + 1) (r.2 - (r.1 + 1)) := by
        have e0 : pagesR [r] = List.range' r.1 (r.2 - r.1) := by simp [pagesR]
        rw [e0, show r.2 - r.1 = (r.2 - (r.1 + 1)) + 1 by omega, List.range'_succ]
      rw [e, List.foldl_cons, stepO_far hl, foldO_run l r.1 (r.2 - (r.1 + 1)) 1]
      rw [show r.1 + 1 + (r.2 - (r.1 + 1)) = r.2 by omega]
    rw [h1, ih (by simpa using h)]
    simp
theorem ofR_pages {l : RnL} (h : Rgt l) : ofR (pagesR l) = l := by
  have := foldO (l := []) (m := l) (by simpa using h)
  simpa [ofR] using this
/-- all pages dropped, one by one -/
def foldD (l : RnL) : List Nat → RnL
  | [] => l
  | p :: r => foldD (dropP l p) r
theorem foldD_snoc (p : Nat) : ∀ (ps : List Nat) (l : RnL), foldD l (ps ++ [p]) = dropP (foldD l ps) p
  | [], l => rfl
  | q :: r, l => foldD_snoc p r _
theorem foldD_law : ∀ (ps : List Nat) (l : RnL), Rgt l → ps.Nodup → (∀ p ∈ ps, p ∈ pagesR l) → Rgt (foldD l ps) ∧ pagesR (foldD l ps) = (pagesR l).filter (fun q => decide (q ∉ ps))
  | [], l, h, _, _ => ⟨h, by
    have : (pagesR l).filter (fun q => decide (q ∉ ([] : List Nat))) = pagesR l := List.filter_eq_self.2 fun q _ => by simp
    rw [this]; rfl⟩
  | p :: r, l, h, hn, hm => by
    obtain ⟨h1, h2, h3⟩ := h.drop (hm p (List.mem_cons_self ..))
    rw [List.nodup_cons] at hn
    have h4 := foldD_law r (dropP l p) h2 hn.2 fun q hq => by
      rw [h3, List.mem_filter]
      exact ⟨hm q (List.mem_cons_of_mem _ hq), decide_eq_true fun e => hn.1 (e ▸ hq)⟩
    refine ⟨h4.1, ?_⟩
    rw [foldD, h4.2, h3, List.filter_filter]
    congr 1
    funext q
    simp only [List.mem_cons, not_or, ← Bool.decide_and]
    rw [decide_eq_decide]
    exact And.comm
/-- what is left of a device -/
def leftO (blocks : Nat) (ps : List Nat) : RnL := ofR ((List.range' 2 (blocks - 2)).filter fun q => decide (q ∉ ps))
theorem free_law {blocks : Nat} {ps : List Nat} (hb : 2 ≤ blocks) (hn : ps.Nodup) (hm : ∀ p ∈ ps, 2 ≤ p ∧ p < blocks) : foldD (mkR 2 blocks) ps = leftO blocks ps := by
  have h := foldD_law ps (mkR 2 blocks) (Rgt.mk _ _) hn fun p hp => by
    rw [pagesR_mk, List.mem_range'_1]
    have := hm p hp
    omega
  rw [pagesR_mk] at h
  unfold leftO
  rw [← h.2, ofR_pages h.1]
/-- what comes of pages that were reached -/
def freeP (blocks : Int) (ps : List Nat) : RnL × Nat :=
  if blocks < 8 ∨ 4096 < blocks then ([], 2) else if ps.any (fun p => decide (p < 2) || decide (blocks.toNat ≤ p)) = true then ([], 2) else if ps.Nodup then (leftO blocks.toNat ps, 0) else ([], 8)
end Go.Proofs.Ytmeakfocppooiaa
