/-
  KEYS THAT CAME IN: what a list of them is in memory; what writes to one ring leaves of the other.
  KEYS THAT CAME IN: a parameter []Key opened.
  TWO RINGS OUT OF ONE LIST OF KEYS: the walk of law18's rings.
-/
import Derived.Test.YtakgebbeknfplaaGreatRkB
import Derived.Test.YtakgebbeknfplaaGreatWid6
import Derived.Test.YtakgebbeknfplaaGreatOpn
import Derived.Deep.Slices
import Derived.Test.YtakgebbeknfplaaGreatSeG
namespace Go.Proofs.YtakgebbeknfplaaGreat
open Go.RowKit Go.ChangeShapes Go.WideShapes
set_option linter.unusedVariables false

structure KArg where
  t : Nat
  g : Nat
  a : Option Addr
  n : Nat
  c : Nat
  k : List Nat
structure KsB (w : World) (A : Option Addr) (n c : Nat) (ks : List KArg) : Prop where
  len : ks.length = n
  cap : n ≤ c
  max : c ≤ maxLen
  cel : ∀ (i : Nat) (q : KArg), ks[i]? = some q → ∃ x, A = some x ∧ x.block < w.heap.size ∧ w.cell? (x.add (i * 3)) = some (.int .u32 (q.t : Int)) ∧ w.cell? (x.add (i * 3 + 1)) = some (.int .u16 (q.g : Int)) ∧ w.cell? (x.add (i * 3 + 2)) = some (.slice q.a q.n q.c) ∧ q.t < 4294967296 ∧ q.g < 65536 ∧ IsB w q.a q.n q.c q.k
theorem KsB.below {w w' : World} {A : Option Addr} {n c : Nat} {ks : List KArg} (h : KsB w A n c ks) (hb : Below w.heap.size w w') : KsB w' A n c ks :=
  ⟨h.len, h.cap, h.max, fun i q hq => by
    obtain ⟨x, hx, hl, h0, h1, h2, ht, hg, hk⟩ := h.cel i q hq
    have hc : ∀ j v, w.cell? (x.add j) = some v → w'.cell? (x.add j) = some v := fun j v hv => by
      rw [← hv]
      exact World.cell?_of_block (hb.block _ (by rw [add_block]; exact hl))
    exact ⟨x, hx, Nat.lt_of_lt_of_le hl hb.size, hc _ _ h0, hc _ _ h1, hc _ _ h2, ht, hg, hk.below hb⟩⟩
/-- what a writes to a map's block leaves of a reference ring -/
theorem RkB.grownM {w w' : World} {B g m : Nat} {v : Value} {vs : List ((Nat × Nat) × Value)} {l : RgL} {B' g' : Nat} {l' : RgL} (h : RkB w B g v vs l) (hr : RgB w B' g' m l') (hg : w.grownBy w' (some m)) : RkB w' B g v vs l := by
  obtain ⟨us, hm, _⟩ := hr.map
  have hf := Fr.grown hg
  have hgm : g ≠ m := fun e => by
    obtain ⟨es, c, h1, _⟩ := hm
    have := h.box
    unfold CbB at this
    rw [e, h1] at this
    cases this
  refine ⟨h.box.fr hf (fun e => hgm (by injection e with e; exact e.symm)), row_fr h.own hf (fun k hk e => ?_), h.vals.imp fun z k hz => hz.fr hf (fun q hq e => notMap hz hm (by rw [hq, e])), Nat.le_trans h.low hg.size, h.ne⟩
  injection e with e
  subst e
  rcases h.own.2 with ⟨rfl, _⟩ | ⟨gb, cap, cur, rfl, _, hh, _⟩
  · cases hk
  · obtain ⟨es, c, h1, _⟩ := hm
    have : gb = m := by injection hk
    subst this
    rw [h1] at hh
    cases hh
theorem RgB.frK {w w' : World} {B g m : Nat} {l : RgL} {B' g' : Nat} {v : Value} {vs : List ((Nat × Nat) × Value)} {l' : RgL} (h : RgB w B g m l) (hr : RkB w B' g' v vs l') (hf : Fr w w' (fun k => k = g' ∨ v.ownBlock = some k)) : RgB w' B g m l := by
  obtain ⟨us, hm, hv⟩ := h.map
  have hcb : CbB w g 169 #[.map (some m)] := h.box
  obtain ⟨es, c, hme, _⟩ := id hm
  have nb : ∀ k, v.ownBlock = some k → ∃ cs T x, w.heap[k]? = some (.cells cs T x) := fun k hk => by
    rcases hr.own.2 with ⟨rfl, _⟩ | ⟨gb, cap, cur, rfl, _, hh, _⟩
    · cases hk
    · have : gb = k := by injection hk
      subst this
      exact ⟨_, _, _, hh⟩
  refine ⟨(hcb.fr hf ?_ : CbB w' g _ _), h.low, ⟨us, hm.same (hf.block m h.mlt ?_), hv.imp fun z k hz => hz.fr hf ?_⟩, h.ne⟩
  · rintro (e | e)
    · subst e
      have h1 := hr.box
      unfold CbB at h1
      rw [h.box] at h1
      injection h1 with h1
      injection h1 with h1 h2
      exact absurd h2 (by decide)
    · exact row_ne hr.own hcb (by decide) e
  · rintro (e | e)
    · subst e
      have h1 := hr.box
      unfold CbB at h1
      rw [hme] at h1
      cases h1
    · obtain ⟨cs, T, x, h1⟩ := nb _ e
      rw [hme] at h1
      cases h1
  · rintro q hq (e | e)
    · subst e
      exact own_ne' (by decide) hr.box hz hq
    · exact row_own_ne hr.own hz (by decide) q hq e
end Go.Proofs.YtakgebbeknfplaaGreat

namespace Go.Proofs.YtakgebbeknfplaaGreat
open Go.RowKit Go.ChangeShapes Go.WideShapes
set_option linter.unusedVariables false

section
variable {H : Type} {enc : TypeId × Value → H} {W : World}
theorem trod_struct3 {P : Program} {t : TypeId} {f0 f1 f2 : Field} {base : Nat} {spare : Nat → Bool} {held : Bool} {fuel : Nat} {cs : List Value} {x : DataW H × List MemPlace} (ht : P.underlying t = some (.struct #[f0, f1, f2])) (h : DataW.trod enc P W base spare held fuel t cs = some x) :
    ∃ y0 y1 y2 n, x = (.agg [y0.1, y1.1, y2.1], y0.2 ++ (y1.2 ++ y2.2)) ∧ cs.length = P.cellsOf t ∧ DataW.trod enc P W base spare held n f0.type ((cs.drop f0.offset).take (P.cellsOf f0.type)) = some y0 ∧
      DataW.trod enc P W base spare held n f1.type ((cs.drop f1.offset).take (P.cellsOf f1.type)) = some y1 ∧ DataW.trod enc P W base spare held n f2.type ((cs.drop f2.offset).take (P.cellsOf f2.type)) = some y2 := by
  obtain ⟨xs, n, _, rfl, hl, hlen, hf⟩ := DataW.trod_struct ht h
  match xs, hlen with
  | [y0, y1, y2], _ => exact ⟨y0, y1, y2, n, by simp, hl, by simpa using hf 0 f0 rfl, by simpa using hf 1 f1 rfl, by simpa using hf 2 f2 rfl⟩
theorem list3 {α : Type} {cs : List α} (h : cs.length = 3) : ∃ c0 c1 c2, cs = [c0, c1, c2] := by
  match cs, h with
  | [c0, c1, c2], _ => exact ⟨c0, c1, c2, rfl⟩
set_option maxRecDepth 100000 in
theorem key_trod {fuel : Nat} {cs : List Value} {x : DataW H × List MemPlace} (h : DataW.trod enc Tryz.prog W 0 (fun _ => true) true fuel 44 cs = some x) (hlt : ∀ q ∈ x.2, q.block < W.heap.size) :
    ∃ q : KArg, cs = [.int .u32 (q.t : Int), .int .u16 (q.g : Int), .slice q.a q.n q.c] ∧ q.t < 4294967296 ∧ q.g < 65536 ∧ IsB W q.a q.n q.c q.k := by
  obtain ⟨y0, y1, y2, n, hx, hl, h0, h1, h2⟩ := trod_struct3 Tryz.underlying44 h
  have c3 : Tryz.prog.cellsOf 44 = 3 := by kernel_rfl
  have cu : Tryz.prog.cellsOf 41 = 1 := by kernel_rfl
  have ch : Tryz.prog.cellsOf 42 = 1 := by kernel_rfl
  have cb : Tryz.prog.cellsOf 22 = 1 := by kernel_rfl
  have c8 : Tryz.prog.cellsOf 5 = 1 := by kernel_rfl
  have hp : x.2 = y0.2 ++ (y1.2 ++ y2.2) := by simpa using congrArg (·.2) hx
  rw [c3] at hl
  obtain ⟨v0, v1, v2, rfl⟩ := list3 hl
  simp only [cu, ch, cb] at h0 h1 h2
  obtain ⟨t, e0, w0⟩ := int_trod Tryz.underlying41 h0
  obtain ⟨g, e1, w1⟩ := int_trod Tryz.underlying42 h1
  obtain ⟨A, kn, kc, k, e2, i2⟩ := isB_trod Tryz.underlying22 Tryz.underlying5 c8 h2 (fun q hq => hlt q (by rw [hp]; simp [hq]))
  simp at e0 e1 e2
  subst e0 e1 e2
  simp only [Lit.wf, Bool.and_eq_true, decide_eq_true_eq] at w0 w1
  have m1 : IntKind.u32.min = 0 ∧ IntKind.u32.max = 4294967295 := ⟨rfl, rfl⟩
  have m2 : IntKind.u16.min = 0 ∧ IntKind.u16.max = 65535 := ⟨rfl, rfl⟩
  obtain ⟨t', rfl⟩ : ∃ t' : Nat, t = (t' : Int) := ⟨t.toNat, by omega⟩
  obtain ⟨g', rfl⟩ : ∃ g' : Nat, g = (g' : Int) := ⟨g.toNat, by omega⟩
  exact ⟨⟨t', g', A, kn, kc, k⟩, rfl, by show t' < _; omega, by show g' < _; omega, i2⟩
theorem list_of {α : Type} {Q : Nat → α → Prop} : ∀ (n : Nat), (∀ i, i < n → ∃ q, Q i q) → ∃ l : List α, l.length = n ∧ ∀ (i : Nat) (q : α), l[i]? = some q → Q i q
  | 0, _ => ⟨[], rfl, fun i q h => by simp at h⟩
  | n + 1, h => by
    obtain ⟨l, hl, hq⟩ := list_of n fun i hi => h i (by omega)
    obtain ⟨q, hn⟩ := h n (by omega)
    refine ⟨l ++ [q], by simp [hl], fun i p hp => ?_⟩
    rcases Nat.lt_or_ge i n with hi | hi
    · exact hq i p (by rwa [List.getElem?_append_left (by omega)] at hp)
    · rw [List.getElem?_append_right (by omega)] at hp
      obtain ⟨hj, hp⟩ := List.getElem?_eq_some_iff.1 hp
      simp at hj hp
      subst hp
      obtain rfl : i = n := by omega
      exact hn
set_option maxRecDepth 100000 in
theorem open_keys {base : Nat} {v : Value} {d : DataW H} {p : List MemPlace} (hk : Value.okWide Tryz.prog W .any base 27 v)
    (h : DataW.Trod enc Tryz.prog W 0 (fun _ => true) true 27 v d p) (hlt : ∀ x ∈ p, x.block < W.heap.size) : ∃ A n c ks, v = .slice A n c ∧ KsB W A n c ks := by
  obtain ⟨A, n, c, rfl⟩ := okWide_slice Tryz.underlying27 hk
  have c3 : Tryz.prog.cellsOf 44 = 3 := by kernel_rfl
  obtain ⟨fuel, hf⟩ := h
  rcases Go.Deep.open_slice Tryz.underlying27 hf with ⟨hcs, hx⟩ | ⟨a, len, cap, m, nn, D, Pl, hcs, hb, hl, hm, hmm, hx, hi⟩
  · simp [Value.cells] at hcs
    obtain ⟨rfl, rfl, rfl⟩ := hcs
    exact ⟨none, 0, 0, [], rfl, rfl, Nat.le_refl _, Nat.zero_le _, fun i q hq => by simp at hq⟩
  · simp [Value.cells] at hcs
    obtain ⟨rfl, rfl, rfl⟩ := hcs
    rw [c3] at hi hx
    have hmc : m = c := by simpa using hmm
    subst hmc
    have hp : p = MemPlace.row a (m * 3) ++ (List.range m).flatMap Pl := by simpa using congrArg (·.2) hx
    have hkey : ∀ i, i < n → ∃ q : KArg, W.cell? (a.add (i * 3)) = some (.int .u32 (q.t : Int)) ∧ W.cell? (a.add (i * 3 + 1)) = some (.int .u16 (q.g : Int)) ∧ W.cell? (a.add (i * 3 + 2)) = some (.slice q.a q.n q.c) ∧ q.t < 4294967296 ∧ q.g < 65536 ∧ IsB W q.a q.n q.c q.k := fun i hin => by
      obtain ⟨cs', hc, ht⟩ := hi i (by omega)
      obtain ⟨_, hcl, hat⟩ := World.cells?_some hc
      obtain ⟨q, rfl, h1, h2, h3⟩ := key_trod ht (fun x hx => hlt x (by
        rw [hp]
        exact List.mem_append_right _ (List.mem_flatMap.2 ⟨i, List.mem_range.2 (by omega), hx⟩)))
      have a0 := hat 0 (by decide)
      have a1 := hat 1 (by decide)
      have a2 := hat 2 (by decide)
      rw [Go.Deep.add_add] at a0 a1 a2
      exact ⟨q, a0, a1, a2, h1, h2, h3⟩
    obtain ⟨ks, hkl, hks⟩ := list_of n hkey
    refine ⟨some a, n, m, ks, rfl, hkl, hl, hm, fun i q hq => ?_⟩
    obtain ⟨k0, k1, k2, k3, k4, k5⟩ := hks i q hq
    have hin : i < n := by rw [← hkl]; exact (List.getElem?_eq_some_iff.1 hq).1
    refine ⟨a, rfl, ?_, k0, k1, k2, k3, k4, k5⟩
    have h1 : MemPlace.cell a.block a.off ∈ MemPlace.row a (m * 3) := List.mem_map.2 ⟨0, List.mem_range.2 (by omega), by simp⟩
    exact hlt _ (by rw [hp]; exact List.mem_append_left _ h1)
end
end Go.Proofs.YtakgebbeknfplaaGreat

namespace Go.Proofs.YtakgebbeknfplaaGreat
open Go.RowKit
set_option linter.unusedVariables false

def foldK (l : RgL) : List KArg → RgL
  | [] => l
  | q :: r => foldK (addP (q.t, q.g) q.k l).2 r
theorem foldK_snoc (q : KArg) : ∀ (ks : List KArg) (l : RgL), foldK l (ks ++ [q]) = (addP (q.t, q.g) q.k (foldK l ks)).2
  | [], l => rfl
  | p :: r, l => foldK_snoc q r _
theorem addP_len (x : Nat × Nat) (k : List Nat) (l : RgL) : (addP x k l).2.length ≤ l.length + 1 := by
  unfold addP
  split
  · split <;> simp
  · simp
theorem foldK_len : ∀ (ks : List KArg) (l : RgL), (foldK l ks).length ≤ l.length + ks.length
  | [], l => by simp [foldK]
  | q :: r, l => by
    have h1 := foldK_len r (addP (q.t, q.g) q.k l).2
    have h2 := addP_len (q.t, q.g) q.k l
    rw [foldK, List.length_cons]
    omega
theorem keep_cell {w W : World} {x : Addr} {j : Nat} {v : Value} (h : w.cell? (x.add j) = some v) (hx : x.block < w.heap.size) (hb : Below w.heap.size w W) : W.cell? (x.add j) = some v := by
  rw [← h]
  exact World.cell?_of_block (hb.block _ (by rw [add_block]; exact hx))
theorem keep_cell2 {w W : World} {x : Addr} {j k : Nat} {v : Value} (h : w.cell? (x.add (j + (k + 1))) = some v) (hx : x.block < w.heap.size) (hb : Below w.heap.size w W) : W.cell? ⟨(x.add j).block, (x.add j).off + (k + 1), none⟩ = some v := by
  have h2 := keep_cell h hx hb
  rw [← Go.Deep.add_add] at h2
  exact h2
/-- the two rings -/
def Two (B g m g2 : Nat) (l : RgL) (W : World) : Prop := RgB W B g m l ∧ ∃ v vs, RkB W B g2 v vs l
def PreK (B g m g2 : Nat) (l : RgL) (i : Nat) (W : World) : Prop := (i = 24 → RgB W B g m l) ∧ (i = 40 → ∃ v vs, RkB W B g2 v vs l)
def StepK (B g m g2 : Nat) (i : Nat) (W W' : World) : Prop :=
  Below W.heap.size W W' ∨ (i = 24 ∧ (∃ l, RgB W B g m l) ∧ W.grownBy W' (some m)) ∨ (i = 40 ∧ ∃ v vs l, RkB W B g2 v vs l ∧ Fr W W' (fun k => k = g2 ∨ v.ownBlock = some k))
section
variable {B g m g2 : Nat} {l : RgL}
theorem stepK_rg {i : Nat} (hi : i ≠ 24) {W W' : World} (h : StepK B g m g2 i W W') (hr : RgB W B g m l) : RgB W' B g m l := by
  rcases h with h | ⟨h, _⟩ | ⟨_, v, vs, l', h1, h2⟩
  · exact hr.ab h
  · exact absurd h hi
  · exact hr.frK h1 h2
theorem stepK_rk {i : Nat} (hi : i ≠ 40) {W W' : World} (h : StepK B g m g2 i W W') (hr : ∃ v vs, RkB W B g2 v vs l) : ∃ v vs, RkB W' B g2 v vs l := by
  obtain ⟨v, vs, hr⟩ := hr
  rcases h with h | ⟨_, ⟨l', h1⟩, h2⟩ | ⟨h, _⟩
  · exact ⟨v, vs, hr.ab h⟩
  · exact ⟨v, vs, hr.grownM h1 h2⟩
  · exact absurd h hi
theorem stepK_pre : ∀ i j, i ≠ j → ∀ W W', StepK B g m g2 i W W' → PreK B g m g2 l j W → PreK B g m g2 l j W' :=
  fun i j hij W W' hs hp => ⟨fun e => stepK_rg (by omega) hs (hp.1 e), fun e => stepK_rk (by omega) hs (hp.2 e)⟩
theorem stepK_below {w : World} (h2 : w.heap.size ≤ g2) {i : Nat} {W W' : World} (h : StepK w.heap.size g m g2 i W W') (hb : Below w.heap.size w W) : Below w.heap.size w W' := by
  rcases h with h | ⟨_, ⟨l', h1⟩, h3⟩ | ⟨_, v, vs, l', h1, h3⟩
  · exact below_tr hb h hb.size
  · exact below_grown hb h3 h1.low hb.size
  · refine Fr.below h3 (fun k hk => ?_) hb hb.size
    rcases hk with rfl | hk
    · exact h2
    · exact own_ge9 h1.own k hk
end
theorem rkAdd_far (B g t gn : Nat) (v : Value) (vs : List ((Nat × Nat) × Value)) (l : RgL) (kA : Option Addr) (kn kc : Nat) (key : List Nat) (w0 w : World) (h : RkB w B g v vs l) (hB : w0.heap.size ≤ B) (ht : t < 4294967296) (hg : gn < 65536) (h200 : l.length ≤ 1000) (ik0 : IsB w0 kA kn kc key) (ik : IsB w kA kn kc key) :
    Calls Tryz.prog 17 #[.pointer (some ⟨g, 0, none⟩), .int .u32 (t : Int), .int .u16 (gn : Int), .slice kA kn kc] w fun e w' => ∃ v' vs', e = .returned (.int .i64 ((addP (t, gn) key l).1 : Int)) ∧ RkB w' B g v' vs' (addP (t, gn) key l).2 ∧ Fr w w' (fun k => k = g ∨ v.ownBlock = some k) := by
  by_cases hk : kn = 16 ∨ kn = 32
  · refine rkAdd_any B g t gn v vs l kA kn kc key w h ht hg h200 ik fun x hx hv => ?_
    obtain ⟨y, hy, hl, _⟩ := ik0.cell (by omega)
    rw [hx] at hy
    injection hy with hy
    subst hy
    have := own_ge9 h.own _ hv
    omega
  · have hlen := ik.len
    refine (rkAdd_arg g _ _ kA kn kc w hk).mono ?_
    rintro e w' ⟨rfl, rfl⟩
    have e1 : addP (t, gn) key l = (2, l) := by unfold addP; rw [if_neg (by omega)]
    rw [e1]
    exact ⟨v, vs, rfl, h, Fr.of (Below.refl _ _) _⟩
end Go.Proofs.YtakgebbeknfplaaGreat
