/-
  KEYS THAT CAME IN: what a list of them is in memory; what writes to one ring leaves of the other.
  KEYS THAT CAME IN: a parameter []Key opened.
  TWO RINGS OUT OF ONE LIST OF KEYS: the walk of law18's rings.
-/
import Derived.Test.YtmeakfocppooiaaGreatRkB
import Derived.Test.YtmeakfocppooiaaGreatWid6
import Derived.Test.YtmeakfocppooiaaGreatOpn
import Derived.Deep.Slices
import Derived.Test.YtmeakfocppooiaaGreatSeG
namespace Go.Proofs.YtmeakfocppooiaaGreat
open Go.RowKit Go.ChangeShapes Go.WideShapes
set_option linter.unusedVariables false

structure KArg where
  t : Nat
  g : Nat
  a : Option Addr
  n : Nat
  c : Nat
  k : List Nat
structure KsB (w : World) (A : Option Addr) (n c : Nat) (ks : List KArg) : Prop where
  len : ks.length = n
  cap : n ≤ c
  max : c ≤ maxLen
  cel : ∀ (i : Nat) (q : KArg), ks[i]? = some q → ∃ x, A = some x ∧ x.block < w.heap.size ∧ w.cell? (x.add (i * 3)) = some (.int .u32 (q.t : Int)) ∧ w.cell? (x.add (i * 3 + 1)) = some (.int .u16 (q.g : Int)) ∧ w.cell? (x.add (i * 3 + 2)) = some (.slice q.a q.n q.c) ∧ q.t < 4294967296 ∧ q.g < 65536 ∧ IsB w q.a q.n q.c q.k
theorem KsB.below {w w' : World} {A : Option Addr} {n c : Nat} {ks : List KArg} (h : KsB w A n c ks) (hb : Below w.heap.size w w') : KsB w' A n c ks :=
  ⟨h.len, h.cap, h.max, fun i q hq => by
    obtain ⟨x, hx, hl, h0, h1, h2, ht, hg, hk⟩ := h.cel i q hq
    have hc : ∀ j v, w.cell? (x.add j) = some v → w'.cell? (x.add j) = some v := fun j v hv => by
      rw [← hv]
      exact World.cell?_of_block (hb.block _ (by rw [add_block]; exact hl))
    exact ⟨x, hx, Nat.lt_of_lt_of_le hl hb.size, hc _ _ h0, hc _ _ h1, hc _ _ h2, ht, hg, hk.below hb⟩⟩
/-- what a writes to a map's block leaves of a reference ring -/
theorem RkB.grownM {w w' : World} {B g m : Nat} {v : Value} {vs : List ((Nat × Nat) × Value)} {l : RgL} {B' g' : Nat} {l' : RgL} (h : RkB w B g v vs l) (hr : RgB w B' g' m l') (hg : w.grownBy w' (some m)) : RkB w' B g v vs l := by
  obtain ⟨us, hm, _⟩ := hr.map
  have hf := Fr.grown hg
  have hgm : g ≠ m := fun e => by
    obtain ⟨es, c, h1, _⟩ := hm
    have := h.box
    unfold CbB at this
    rw [e, h1] at this
    cases this
  refine ⟨h.box.fr hf (fun e => hgm (by injection e with e; exact e.symm)), row_fr h.own hf (fun k hk e => ?_), h.vals.imp fun z k hz => hz.fr hf (fun q hq e => notMap hz hm (by rw [hq, e])), Nat.le_trans h.low hg.size, h.ne⟩
  injection e with e
  subst e
  rcases h.own.2 with ⟨rfl, _⟩ | ⟨gb, cap, cur, rfl, _, hh, _⟩
  · cases hk
  · obtain ⟨es, c, h1, _⟩ := hm
    have : gb = m := by injection hk
    subst this
    rw [h1] at hh
    cases hh
theorem RgB.frK {w w' : World} {B g m : Nat} {l : RgL} {B' g' : Nat} {v : Value} {vs : List ((Nat × Nat) × Value)} {l' : RgL} (h : RgB w B g m l) (hr : RkB w B' g' v vs l') (hf : Fr w w' (fun k => k = g' ∨ v.ownBlock = some k)) : RgB w' B g m l := by
  obtain ⟨us, hm, hv⟩ := h.map
  have hcb : CbB w g 152 #[.map (some m)] := h.box
  obtain ⟨es, c, hme, _⟩ := id hm
  have nb : ∀ k, v.ownBlock = some k → ∃ cs T x, w.heap[k]? = some (.cells cs T x) := fun k hk => by
    rcases hr.own.2 with ⟨rfl, _⟩ | ⟨gb, cap, cur, rfl, _, hh, _⟩
    · cases hk
    · have : gb = k := by injection hk
      subst this
      exact ⟨_, _, _, hh⟩
  refine ⟨(hcb.fr hf ?_ : CbB w' g _ _), h.low, ⟨us, hm.same (hf.block m h.mlt ?_), hv.imp fun z k hz => hz.fr hf ?_⟩, h.ne⟩
  · rintro (e | e)
    · subst e
      have h1 := hr.box
      unfold CbB at h1
      rw [h.box] at h1
      injection h1 with h1
      injection h1 with h1 h2
      exact absurd h2 (by decide)
    · exact row_ne hr.own hcb (by decide) e
  · rintro (e | e)
    · subst e
      have h1 := hr.box
      unfold CbB at h1
      rw [hme] at h1
      cases h1
    · obtain ⟨cs, T, x, h1⟩ := nb _ e
      rw [hme] at h1
      cases h1
  · rintro q hq (e | e)
    · subst e
      exact own_ne' (by decide) hr.box hz hq
    · exact row_own_ne hr.own hz (by decide) q hq e
end Go.Proofs.YtmeakfocppooiaaGreat

namespace Go.Proofs.YtmeakfocppooiaaGreat
open Go.RowKit Go.ChangeShapes Go.WideShapes
set_option linter.unusedVariables false

section
variable {H : Type} {enc : TypeId × Value → H} {W : World}
theorem trod_struct3 {P : Program} {t : TypeId} {f0 f1 f2 : Field} {base : Nat} {spare : Nat → Bool} {held : Bool} {fuel : Nat} {cs : List Value} {x : DataW H × List MemPlace} (ht : P.underlying t = some (.struct #[f0, f1, f2])) (h : DataW.trod enc P W base spare held fuel t cs = some x) :
    ∃ y0 y1 y2 n, x = (.agg [y0.1, y1.1, y2.1], y0.2 ++ (y1.2 ++ y2.2)) ∧ cs.length = P.cellsOf t ∧ DataW.trod enc P W base spare held n f0.type ((cs.drop f0.offset).take (P.cellsOf f0.type)) = some y0 ∧
      DataW.trod enc P W base spare held n f1.type ((cs.drop f1.offset).take (P.cellsOf f1.type)) = some y1 ∧ DataW.trod enc P W base spare held n f2.type ((cs.drop f2.offset).take (P.cellsOf f2.type)) = some y2 := by
  obtain ⟨xs, n, _, rfl, hl, hlen, hf⟩ := DataW.trod_struct ht h
  match xs, hlen with
  | [y0, y1, y2], _ => exact ⟨y0, y1, y2, n, by simp, hl, by simpa using hf 0 f0 rfl, by simpa using hf 1 f1 rfl, by simpa using hf 2 f2 rfl⟩
theorem list3 {α : Type} {cs : List α} (h : cs.length = 3) : ∃ c0 c1 c2, cs = [c0, c1, c2] := by
  match cs, h with
  | [c0, c1, c2], _ => exact ⟨c0, c1, c2, rfl⟩
set_option maxRecDepth 100000 in
theorem key_trod {fuel : Nat} {cs : List Value} {x : DataW H × List MemPlace} (h : DataW.trod enc Tryz.prog W 0 (fun _ => true) true fuel 62 cs = some x) (hlt : ∀ q ∈ x.2, q.block < W.heap.size) :
    ∃ q : KArg, cs = [.int .u32 (q.t : Int), .int .u16 (q.g : Int), .slice q.a q.n q.c] ∧ q.t < 4294967296 ∧ q.g < 65536 ∧ IsB W q.a q.n q.c q.k := by
  obtain ⟨y0, y1, y2, n, hx, hl, h0, h1, h2⟩ := trod_struct3 Tryz.underlying62 h
  have c3 : Tryz.prog.cellsOf 62 = 3 := by kernel_rfl
  have cu : Tryz.prog.cellsOf 24 = 1 := by kernel_rfl
  have ch : Tryz.prog.cellsOf 25 = 1 := by kernel_rfl
  have cb : Tryz.prog.cellsOf 39 = 1 := by kernel_rfl
  have c8 : Tryz.prog.cellsOf 5 = 1 := by kernel_rfl
  have hp : x.2 = y0.2 ++ (y1.2 ++ y2.2) := by simpa using congrArg (·.2) hx
  rw [c3] at hl
  obtain ⟨v0, v1, v2, rfl⟩ := list3 hl
  simp only [cu, ch, cb] at h0 h1 h2
  obtain ⟨t, e0, w0⟩ := int_trod Tryz.underlying24 h0
  obtain ⟨g, e1, w1⟩ := int_trod Tryz.underlying25 h1
  obtain ⟨A, kn, kc, k, e2, i2⟩ := isB_trod Tryz.underlying39 Tryz.underlying5 c8 h2 (fun q hq => hlt q (by rw [hp]; simp [hq]))
  simp at e0 e1 e2
  subst e0 e1 e2
  simp only [Lit.wf, Bool.and_eq_true, decide_eq_true_eq] at w0 w1
  have m1 : IntKind.u32.min = 0 ∧ IntKind.u32.max = 4294967295 := ⟨rfl, rfl⟩
  have m2 : IntKind.u16.min = 0 ∧ IntKind.u16.max = 65535 := ⟨rfl, rfl⟩
  obtain ⟨t', rfl⟩ : ∃ t' : Nat, t = (t' : Int) := ⟨t.toNat, by omega⟩
  obtain ⟨g', rfl⟩ : ∃ g' : Nat, g = (g' : Int) := ⟨g.toNat, by omega⟩
  exact ⟨⟨t', g', A, kn, kc, k⟩, rfl, by show t' < _; omega, by show g' < _; omega, i2⟩
theorem list_of {α : Type} {Q : Nat → α → Prop} : ∀ (n : Nat), (∀ i, i < n → ∃ q, Q i q) → ∃ l : List α, l.length = n ∧ ∀ (i : Nat) (q : α), l[i]? = some q → Q i q
  | 0, _ => ⟨[], rfl, fun i q h => by simp at h⟩
  | n + 1, h => by
    obtain ⟨l, hl, hq⟩ := list_of n fun i hi => h i (by omega)
    obtain ⟨q, hn⟩ := h n (by omega)
    refine ⟨l ++ [q], by simp [hl], fun i p hp => ?_⟩
    rcases Nat.lt_or_ge i n with hi | hi
    · exact hq i p (by rwa [List.getElem?_append_left (by omega)] at hp)
    · rw [List.getElem?_append_right (by omega)] at hp
      obtain ⟨hj, hp⟩ := List.getElem?_eq_some_iff.1 hp
      simp at hj hp
      subst hp
      obtain rfl : i = n := by omega
      exact hn
set_option maxRecDepth 100000 in
theorem open_keys {base : Nat} {v : Value} {d : DataW H} {p : List MemPlace} (hk : Value.okWide Tryz.prog W .any base 22 v)
    (h : DataW.Trod enc Tryz.prog W 0 (fun _ => true) true 22 v d p) (hlt : ∀ x ∈ p, x.block < W.heap.size) : ∃ A n c ks, v = .slice A n c ∧ KsB W A n c ks := by
  obtain ⟨A, n, c, rfl⟩ := okWide_slice Tryz.underlying22 hk
  have c3 : Tryz.prog.cellsOf 62 = 3 := by kernel_rfl
  obtain ⟨fuel, hf⟩ := h
  rcases Go.Deep.open_slice Tryz.underlying22 hf with ⟨hcs, hx⟩ | ⟨a, len, cap, m, nn, D, Pl, hcs, hb, hl, hm, hmm, hx, hi⟩
  · simp [Value.cells] at hcs
    obtain ⟨rfl, rfl, rfl⟩ := hcs
    exact ⟨none, 0, 0, [], rfl, rfl, Nat.le_refl _, Nat.zero_le _, fun i q hq => by simp at hq⟩
  · simp [Value.cells] at hcs
    obtain ⟨rfl, rfl, rfl⟩ := hcs
    rw [c3] at hi hx
    have hmc : m = c := by simpa using hmm
    subst hmc
    have hp : p = MemPlace.row a (m * 3) ++ (List.range m).flatMap Pl := by simpa using congrArg (·.2) hx
    have hkey : ∀ i, i < n → ∃ q : KArg, W.cell? (a.add (i * 3)) = some (.int .u32 (q.t : Int)) ∧ W.cell? (a.add (i * 3 + 1)) = some (.int .u16 (q.g : Int)) ∧ W.cell? (a.add (i * 3 + 2)) = some (.slice q.a q.n q.c) ∧ q.t < 4294967296 ∧ q.g < 65536 ∧ IsB W q.a q.n q.c q.k := fun i hin => by
      obtain ⟨cs', hc, ht⟩ := hi i (by omega)
      obtain ⟨_, hcl, hat⟩ := World.cells?_some hc
      obtain ⟨q, rfl, h1, h2, h3⟩ := key_trod ht (fun x hx => hlt x (by
        rw [hp]
        exact List.mem_append_right _ (List.mem_flatMap.2 ⟨i, List.mem_range.2 (by omega), hx⟩)))
      have a0 := hat 0 (by decide)
      have a1 := hat 1 (by decide)
      have a2 := hat 2 (by decide)
      rw [Go.Deep.add_add] at a0 a1 a2
      exact ⟨q, a0, a1, a2, h1, h2, h3⟩
    obtain ⟨ks, hkl, hks⟩ := list_of n hkey
    refine ⟨some a, n, m, ks, rfl, hkl, hl, hm, fun i q hq => ?_⟩
    obtain ⟨k0, k1, k2, k3, k4, k5⟩ := hks i q hq
    have hin : i < n := by rw [← hkl]; exact (List.getElem?_eq_some_iff.1 hq).1
    refine ⟨a, rfl, ?_, k0, k1, k2, k3, k4, k5⟩
    have h1 : MemPlace.cell a.block a.off ∈ MemPlace.row a (m * 3) := List.mem_map.2 ⟨0, List.mem_range.2 (by omega), by simp⟩
    exact hlt _ (by rw [hp]; exact List.mem_append_left _ h1)
end
end Go.Proofs.YtmeakfocppooiaaGreat

namespace Go.Proofs.YtmeakfocppooiaaGreat
open Go.RowKit
set_option linter.unusedVariables false

def foldK (l : RgL) : List KArg → RgL
  | [] => l
  | q :: r => foldK (addP (q.t, q.g) q.k l).2 r
theorem foldK_snoc (q : KArg) : ∀ (ks : List KArg) (l : RgL), foldK l (ks ++ [q]) = (addP (q.t, q.g) q.k (foldK l ks)).2
  | [], l => rfl
  | p :: r, l => foldK_snoc q r _
theorem addP_len (x : Nat × Nat) (k : List Nat) (l : RgL) : (addP x k l).2.length ≤ l.length + 1 := by
  unfold addP
  split
  · split <;> simp
  · simp
theorem foldK_len : ∀ (ks : List KArg) (l : RgL), (foldK l ks).length ≤ l.length + ks.length
  | [], l => by simp [foldK]
  | q :: r, l => by
    have h1 := foldK_len r (addP (q.t, q.g) q.k l).2
    have h2 := addP_len (q.t, q.g) q.k l
    rw [foldK, List.length_cons]
    omega
theorem keep_cell {w W : World} {x : Addr} {j : Nat} {v : Value} (h : w.cell? (x.add j) = some v) (hx : x.block < w.heap.size) (hb : Below w.heap.size w W) : W.cell? (x.add j) = some v := by
  rw [← h]
  exact World.cell?_of_block (hb.block _ (by rw [add_block]; exact hx))
theorem keep_cell2 {w W : World} {x : Addr} {j k : Nat} {v : Value} (h : w.cell? (x.add (j + (k + 1))) = some v) (hx : x.block < w.heap.size) (hb : Below w.heap.size w W) : W.cell? ⟨(x.add j).block, (x.add j).off + (k + 1), none⟩ = some v := by
  have h2 := keep_cell h hx hb
  rw [← Go.Deep.add_add] at h2
  exact h2
/-- the two rings -/
def Two (B g m g2 : Nat) (l : RgL) (W : World) : Prop := RgB W B g m l ∧ ∃ v vs, RkB W B g2 v vs l
def PreK (B g m g2 : Nat) (l : RgL) (i : Nat) (W : World) : Prop := (i = 24 → RgB W B g m l) ∧ (i = 40 → ∃ v vs, RkB W B g2 v vs l)
def StepK (B g m g2 : Nat) (i : Nat) (W W' : World) : Prop :=
  Below W.heap.size W W' ∨ (i = 24 ∧ (∃ l, RgB W B g m l) ∧ W.grownBy W' (some m)) ∨ (i = 40 ∧ ∃ v vs l, RkB W B g2 v vs l ∧ Fr W W' (fun k => k = g2 ∨ v.ownBlock = some k))
section
variable {B g m g2 : Nat} {l : RgL}
theorem stepK_rg {i : Nat} (hi : i ≠ 24) {W W' : World} (h : StepK B g m g2 i W W') (hr : RgB W B g m l) : RgB W' B g m l := by
  rcases h with h | ⟨h, _⟩ | ⟨_, v, vs, l', h1, h2⟩
  · exact hr.ab h
  · exact absurd h hi
  · exact hr.frK h1 h2
theorem stepK_rk {i : Nat} (hi : i ≠ 40) {W W' : World} (h : StepK B g m g2 i W W') (hr : ∃ v vs, RkB W B g2 v vs l) : ∃ v vs, RkB W' B g2 v vs l := by
  obtain ⟨v, vs, hr⟩ := hr
  rcases h with h | ⟨_, ⟨l', h1⟩, h2⟩ | ⟨h, _⟩
  · exact ⟨v, vs, hr.ab h⟩
  · exact ⟨v, vs, hr.grownM h1 h2⟩
  · exact absurd h hi
theorem stepK_pre : ∀ i j, i ≠ j → ∀ W W', StepK B g m g2 i W W' → PreK B g m g2 l j W → PreK B g m g2 l j W' :=
  fun i j hij W W' hs hp => ⟨fun e => stepK_rg (by omega) hs (hp.1 e), fun e => stepK_rk (by omega) hs (hp.2 e)⟩
theorem stepK_below {w : World} (h2 : w.heap.size ≤ g2) {i : Nat} {W W' : World} (h : StepK w.heap.size g m g2 i W W') (hb : Below w.heap.size w W) : Below w.heap.size w W' := by
  rcases h with h | ⟨_, ⟨l', h1⟩, h3⟩ | ⟨_, v, vs, l', h1, h3⟩
  · exact below_tr hb h hb.size
  · exact below_grown hb h3 h1.low hb.size
  · refine Fr.below h3 (fun k hk => ?_) hb hb.size
    rcases hk with rfl | hk
    · exact h2
    · exact own_ge9 h1.own k hk
end
theorem rkAdd_far (B g t gn : Nat) (v : Value) (vs : List ((Nat × Nat) × Value)) (l : RgL) (kA : Option Addr) (kn kc : Nat) (key : List Nat) (w0 w : World) (h : RkB w B g v vs l) (hB : w0.heap.size ≤ B) (ht : t < 4294967296) (hg : gn < 65536) (h200 : l.length ≤ 1000) (ik0 : IsB w0 kA kn kc key) (ik : IsB w kA kn kc key) :
    Calls Tryz.prog 22 #[.pointer (some ⟨g, 0, none⟩), .int .u32 (t : Int), .int .u16 (gn : Int), .slice kA kn kc] w fun e w' => ∃ v' vs', e = .returned (.int .i64 ((addP (t, gn) key l).1 : Int)) ∧ RkB w' B g v' vs' (addP (t, gn) key l).2 ∧ Fr w w' (fun k => k = g ∨ v.ownBlock = some k) := by
  by_cases hk : kn = 16 ∨ kn = 32
  · refine rkAdd_any B g t gn v vs l kA kn kc key w h ht hg h200 ik fun x hx hv => ?_
    obtain ⟨y, hy, hl, _⟩ := ik0.cell (by omega)
    rw [hx] at hy
    injection hy with hy
    subst hy
    have := own_ge9 h.own _ hv
    omega
  · have hlen := ik.len
    refine (rkAdd_arg g _ _ kA kn kc w hk).mono ?_
    rintro e w' ⟨rfl, rfl⟩
    have e1 : addP (t, gn) key l = (2, l) := by unfold addP; rw [if_neg (by omega)]
    rw [e1]
    exact ⟨v, vs, rfl, h, Fr.of (Below.refl _ _) _⟩
set_option maxRecDepth 100000 in
set_option maxHeartbeats 4000000 in
theorem rings_any (A : Option Addr) (n c : Nat) (ks : List KArg) (w : World) (h : KsB w A n c ks) :
    Calls Tryz.prog 9 #[.slice A n c] w fun e w' => Below w.heap.size w w' ∧ (e = .returned (.tuple #[.pointer none, .pointer none, .bool false]) ∨
      ∃ g m g2 l, e = .returned (.tuple #[.pointer (some ⟨g, 0, none⟩), .pointer (some ⟨g2, 0, none⟩), .bool true]) ∧ Two w.heap.size g m g2 l w' ∧ l.length ≤ 60) := by
  have HN := Lib.hid (newRing_any w)
  have hn : (n : Int) ≤ 9223372036854775807 := by have := h.cap; have := h.max; unfold maxLen at this; omega
  have K0 := Lib.hid h
  clear h
  go_enter Tryz.func9, Tryz.ntmps9
  by_cases h60 : 60 < n
  · have h60' : (60 : Int) < (n : Int) := by omega
    clear h60
    go_wp2_with fail
    go_ret3
    exact ⟨Below.refl _ _, .inl rfl⟩
  have h60' : ¬ (60 : Int) < (n : Int) := by omega
  have N60 := Lib.hid h60
  clear h60
  go_wp2_with fail
  refine HN.out.mono ?_
  rintro e w1 ⟨g, m, rfl, hg, hr, hb⟩
  have R1 := Lib.hid hr
  have B1 := Lib.hid hb
  clear hr hb hg HN
  go_wp2_with fail
  go_loopw [14] (fun j wr => ∃ i : Nat, i ≤ n ∧ j = .int .i64 (i : Int) ∧ Below w.heap.size w wr ∧ Two w.heap.size g m w1.heap.size (foldK [] (ks.take i)) wr) (fun j _ => n - (intOf j).toNat)
  case atStart =>
    have ha : Below w1.heap.size w1 (w1.alloc (.cells #[.slice none 0 0] 60)) := (Below.refl _ _).alloc (Nat.le_refl _) _
    refine ⟨0, Nat.zero_le _, rfl, below_tr B1.out ha B1.out.size, R1.out.ab ha, .slice none 0 0, [], CbB.new _ _ _, ?_, trivial, ?_, fun p hp => by cases hp⟩
    · exact ⟨by simp [keyCs, foldK], .inl ⟨rfl, rfl⟩⟩
    · exact Nat.le_trans B1.out.size ha.size
  case round =>
    obtain ⟨i, hi, rfl, hb, hT⟩ := hrel
    by_cases hlt : i < n
    · obtain ⟨q, hq⟩ : ∃ q, ks[i]? = some q := ⟨_, List.getElem?_eq_getElem (by rw [K0.out.len]; exact hlt)⟩
      obtain ⟨x, rfl, hxl, c0, c1, c2, qt, qg, ik⟩ := K0.out.cel i q hq
      have hlti : (i : Int) < (n : Int) := by omega
      have HL := Lib.hid hlt
      have HT := Lib.hid hT
      have HB := Lib.hid hb
      have HQ := Lib.hid hq
      have XL := Lib.hid hxl
      have C0 := Lib.hid c0
      have C1 := Lib.hid c1
      have C2 := Lib.hid c2
      have IK := Lib.hid ik
      have QT := Lib.hid qt
      have QG := Lib.hid qg
      clear hlt hT hb hq hxl c0 c1 c2 ik qt qg hi
      go_wp2_with fail
      by_cases h64 : 64 < q.n
      · have h64' : (64 : Int) < (q.n : Int) := by omega
        clear h64
        refine wp_wide3 [⟨17, IsR (.slice (some x) n c), [], false⟩, ⟨18, IsR (.int .i64 (i : Int)), [], false⟩, ⟨19, IsR (.pointer (some (x.add (i * 3)))), [0, 1], false⟩, ⟨20, IsR (.pointer (some ((x.add (i * 3)).add 2))), [2], false⟩, ⟨21, IsR (.slice q.a q.n q.c), [3], false⟩, ⟨22, IsR (.int .i64 (q.n : Int)), [4], false⟩, ⟨23, IsR (.bool true), [5], false⟩, ⟨24, IsR (.bool true), [6], false⟩, ⟨25, AnyR, [7], false⟩, ⟨26, AnyR, [7], false⟩, ⟨27, AnyR, [7], false⟩, ⟨28, AnyR, [7], false⟩, ⟨29, AnyR, [7], false⟩, ⟨30, AnyR, [7], false⟩, ⟨31, AnyR, [7], false⟩, ⟨32, AnyR, [7], false⟩, ⟨33, AnyR, [7], false⟩, ⟨34, AnyR, [7], false⟩, ⟨35, AnyR, [7], false⟩, ⟨36, AnyR, [7], false⟩, ⟨37, AnyR, [7], false⟩, ⟨38, AnyR, [7], false⟩, ⟨39, AnyR, [7], false⟩, ⟨40, AnyR, [7], false⟩, ⟨41, AnyR, [7], false⟩, ⟨42, AnyR, [7], false⟩, ⟨43, AnyR, [7], false⟩, ⟨44, AnyR, [7], false⟩, ⟨45, AnyR, [7], false⟩, ⟨46, AnyR, [7], false⟩, ⟨47, AnyR, [7], false⟩, ⟨48, AnyR, [7], false⟩, ⟨49, AnyR, [7], false⟩, ⟨50, AnyR, [7], false⟩, ⟨51, AnyR, [7], false⟩, ⟨52, AnyR, [7], false⟩, ⟨53, AnyR, [7], false⟩, ⟨54, AnyR, [7], false⟩, ⟨55, AnyR, [7], false⟩, ⟨56, AnyR, [7], false⟩, ⟨57, AnyR, [7], false⟩, ⟨58, AnyR, [7], false⟩] (by kernel_rfl) (by kernel_rfl) rfl rfl rfl ⟨?_, ?_, ?_, ?_, ?_, ?_, ?_, ?_, ?_, ?_, ?_, ?_, ?_, ?_, ?_, ?_, ?_, ?_, ?_, ?_, ?_, ?_, ?_, ?_, ?_, ?_, ?_, ?_, ?_, ?_, ?_, ?_, ?_, ?_, ?_, ?_, ?_, ?_, ?_, ?_, ?_, ?_, trivial⟩ ?_
        · refine ⟨rfl, IsR.mono _, fun a W hA hb hd => takes_plain rfl (yields_value _ ?_ rfl)⟩
          have h0 : a.tmps[0]?.getD undef = .slice (some x) n c := (eval_get a 0).trans ((hA.eval (by simp)).trans rfl)
          go_simp
        · refine ⟨rfl, IsR.mono _, fun a W hA hb hd => takes_plain rfl (yields_value _ ?_ rfl)⟩
          have h7 : a.tmps[7]?.getD undef = .int .i64 (i : Int) := (eval_get a 7).trans ((hA.eval (by simp)).trans rfl)
          go_simp
        · refine ⟨rfl, IsR.mono _, fun a W hA hb hd => takes_plain rfl (yields_value _ ?_ rfl)⟩
          have h17 : a.tmps[17]?.getD undef = .slice (some x) n c := (eval_get a 17).trans (hd 0 (by simp) _ rfl)
          have h18 : a.tmps[18]?.getD undef = .int .i64 (i : Int) := (eval_get a 18).trans (hd 1 (by simp) _ rfl)
          go_simp
        · refine ⟨rfl, IsR.mono _, fun a W hA hb hd => takes_plain rfl (yields_value _ ?_ rfl)⟩
          have h19 : a.tmps[19]?.getD undef = .pointer (some (x.add (i * 3))) := (eval_get a 19).trans (hd 2 (by simp) _ rfl)
          go_simp
        · refine ⟨rfl, IsR.mono _, fun a W hA hb hd => takes_plain rfl (yields_value _ ?_ rfl)⟩
          have h20 : a.tmps[20]?.getD undef = .pointer (some ((x.add (i * 3)).add 2)) := (eval_get a 20).trans (hd 3 (by simp) _ rfl)
          have hc : W.cell? (⟨(x.add (i * 3)).block, (x.add (i * 3)).off + 2, none⟩) = some (.slice q.a q.n q.c) := keep_cell2 C2.out XL.out (below_tr HB.out hb HB.out.size)
          go_simp
        · refine ⟨rfl, IsR.mono _, fun a W hA hb hd => takes_plain rfl (yields_value _ ?_ rfl)⟩
          have h21 : a.tmps[21]?.getD undef = .slice q.a q.n q.c := (eval_get a 21).trans (hd 4 (by simp) _ rfl)
          go_simp
        · refine ⟨rfl, IsR.mono _, fun a W hA hb hd => takes_plain rfl (yields_value _ ?_ rfl)⟩
          have h22 : a.tmps[22]?.getD undef = .int .i64 (q.n : Int) := (eval_get a 22).trans (hd 5 (by simp) _ rfl)
          go_simp
        · refine ⟨rfl, IsR.mono _, fun a W hA hb hd => takes_plain rfl (yields_value _ ?_ rfl)⟩
          have h23 : a.tmps[23]?.getD undef = .bool true := (eval_get a 23).trans (hd 6 (by simp) _ rfl)
          go_simp
        · exact ⟨rfl, AnyR.mono, fun a W hA hb hd => takes_off (i := 7) (d := 24) (b := false) rfl rfl rfl (hd 7 (by simp) _ rfl) trivial⟩
        · exact ⟨rfl, AnyR.mono, fun a W hA hb hd => takes_off (i := 7) (d := 24) (b := false) rfl rfl rfl (hd 7 (by simp) _ rfl) trivial⟩
        · exact ⟨rfl, AnyR.mono, fun a W hA hb hd => takes_off (i := 7) (d := 24) (b := false) rfl rfl rfl (hd 7 (by simp) _ rfl) trivial⟩
        · exact ⟨rfl, AnyR.mono, fun a W hA hb hd => takes_off (i := 7) (d := 24) (b := false) rfl rfl rfl (hd 7 (by simp) _ rfl) trivial⟩
        · exact ⟨rfl, AnyR.mono, fun a W hA hb hd => takes_off (i := 7) (d := 24) (b := false) rfl rfl rfl (hd 7 (by simp) _ rfl) trivial⟩
        · exact ⟨rfl, AnyR.mono, fun a W hA hb hd => takes_off (i := 7) (d := 24) (b := false) rfl rfl rfl (hd 7 (by simp) _ rfl) trivial⟩
        · exact ⟨rfl, AnyR.mono, fun a W hA hb hd => takes_off (i := 7) (d := 24) (b := false) rfl rfl rfl (hd 7 (by simp) _ rfl) trivial⟩
        · exact ⟨rfl, AnyR.mono, fun a W hA hb hd => takes_off (i := 7) (d := 24) (b := false) rfl rfl rfl (hd 7 (by simp) _ rfl) trivial⟩
        · exact ⟨rfl, AnyR.mono, fun a W hA hb hd => takes_off (i := 7) (d := 24) (b := false) rfl rfl rfl (hd 7 (by simp) _ rfl) trivial⟩
        · exact ⟨rfl, AnyR.mono, fun a W hA hb hd => takes_off (i := 7) (d := 24) (b := false) rfl rfl rfl (hd 7 (by simp) _ rfl) trivial⟩
        · exact ⟨rfl, AnyR.mono, fun a W hA hb hd => takes_off (i := 7) (d := 24) (b := false) rfl rfl rfl (hd 7 (by simp) _ rfl) trivial⟩
        · exact ⟨rfl, AnyR.mono, fun a W hA hb hd => takes_off (i := 7) (d := 24) (b := false) rfl rfl rfl (hd 7 (by simp) _ rfl) trivial⟩
        · exact ⟨rfl, AnyR.mono, fun a W hA hb hd => takes_off (i := 7) (d := 24) (b := false) rfl rfl rfl (hd 7 (by simp) _ rfl) trivial⟩
        · exact ⟨rfl, AnyR.mono, fun a W hA hb hd => takes_off (i := 7) (d := 24) (b := false) rfl rfl rfl (hd 7 (by simp) _ rfl) trivial⟩
        · exact ⟨rfl, AnyR.mono, fun a W hA hb hd => takes_off (i := 7) (d := 24) (b := false) rfl rfl rfl (hd 7 (by simp) _ rfl) trivial⟩
        · exact ⟨rfl, AnyR.mono, fun a W hA hb hd => takes_off (i := 7) (d := 24) (b := false) rfl rfl rfl (hd 7 (by simp) _ rfl) trivial⟩
        · exact ⟨rfl, AnyR.mono, fun a W hA hb hd => takes_off (i := 7) (d := 24) (b := false) rfl rfl rfl (hd 7 (by simp) _ rfl) trivial⟩
        · exact ⟨rfl, AnyR.mono, fun a W hA hb hd => takes_off (i := 7) (d := 24) (b := false) rfl rfl rfl (hd 7 (by simp) _ rfl) trivial⟩
        · exact ⟨rfl, AnyR.mono, fun a W hA hb hd => takes_off (i := 7) (d := 24) (b := false) rfl rfl rfl (hd 7 (by simp) _ rfl) trivial⟩
        · exact ⟨rfl, AnyR.mono, fun a W hA hb hd => takes_off (i := 7) (d := 24) (b := false) rfl rfl rfl (hd 7 (by simp) _ rfl) trivial⟩
        · exact ⟨rfl, AnyR.mono, fun a W hA hb hd => takes_off (i := 7) (d := 24) (b := false) rfl rfl rfl (hd 7 (by simp) _ rfl) trivial⟩
        · exact ⟨rfl, AnyR.mono, fun a W hA hb hd => takes_off (i := 7) (d := 24) (b := false) rfl rfl rfl (hd 7 (by simp) _ rfl) trivial⟩
        · exact ⟨rfl, AnyR.mono, fun a W hA hb hd => takes_off (i := 7) (d := 24) (b := false) rfl rfl rfl (hd 7 (by simp) _ rfl) trivial⟩
        · exact ⟨rfl, AnyR.mono, fun a W hA hb hd => takes_off (i := 7) (d := 24) (b := false) rfl rfl rfl (hd 7 (by simp) _ rfl) trivial⟩
        · exact ⟨rfl, AnyR.mono, fun a W hA hb hd => takes_off (i := 7) (d := 24) (b := false) rfl rfl rfl (hd 7 (by simp) _ rfl) trivial⟩
        · exact ⟨rfl, AnyR.mono, fun a W hA hb hd => takes_off (i := 7) (d := 24) (b := false) rfl rfl rfl (hd 7 (by simp) _ rfl) trivial⟩
        · exact ⟨rfl, AnyR.mono, fun a W hA hb hd => takes_off (i := 7) (d := 24) (b := false) rfl rfl rfl (hd 7 (by simp) _ rfl) trivial⟩
        · exact ⟨rfl, AnyR.mono, fun a W hA hb hd => takes_off (i := 7) (d := 24) (b := false) rfl rfl rfl (hd 7 (by simp) _ rfl) trivial⟩
        · exact ⟨rfl, AnyR.mono, fun a W hA hb hd => takes_off (i := 7) (d := 24) (b := false) rfl rfl rfl (hd 7 (by simp) _ rfl) trivial⟩
        · exact ⟨rfl, AnyR.mono, fun a W hA hb hd => takes_off (i := 7) (d := 24) (b := false) rfl rfl rfl (hd 7 (by simp) _ rfl) trivial⟩
        · exact ⟨rfl, AnyR.mono, fun a W hA hb hd => takes_off (i := 7) (d := 24) (b := false) rfl rfl rfl (hd 7 (by simp) _ rfl) trivial⟩
        · exact ⟨rfl, AnyR.mono, fun a W hA hb hd => takes_off (i := 7) (d := 24) (b := false) rfl rfl rfl (hd 7 (by simp) _ rfl) trivial⟩
        · exact ⟨rfl, AnyR.mono, fun a W hA hb hd => takes_off (i := 7) (d := 24) (b := false) rfl rfl rfl (hd 7 (by simp) _ rfl) trivial⟩
        · exact ⟨rfl, AnyR.mono, fun a W hA hb hd => takes_off (i := 7) (d := 24) (b := false) rfl rfl rfl (hd 7 (by simp) _ rfl) trivial⟩
        intro vs w3 hR hF hb
        have e17 : vs 17 = .slice (some x) n c := hR 0 _ rfl
        have e18 : vs 18 = .int .i64 (i : Int) := hR 1 _ rfl
        have e19 : vs 19 = .pointer (some (x.add (i * 3))) := hR 2 _ rfl
        have e20 : vs 20 = .pointer (some ((x.add (i * 3)).add 2)) := hR 3 _ rfl
        have e21 : vs 21 = .slice q.a q.n q.c := hR 4 _ rfl
        have e22 : vs 22 = .int .i64 (q.n : Int) := hR 5 _ rfl
        have e23 : vs 23 = .bool true := hR 6 _ rfl
        have e24 : vs 24 = .bool true := hR 7 _ rfl
        simp only [List.map_cons, List.map_nil, List.foldl_cons, List.foldl_nil, List.length_cons, List.length_nil, List.drop_succ_cons, List.drop_zero, Act.put, List.setIfInBounds_toArray, List.set_cons_zero, List.set_cons_succ, e17, e18, e19, e20, e21, e22, e23, e24]
        generalize vs 25 = q25
        generalize vs 26 = q26
        generalize vs 27 = q27
        generalize vs 28 = q28
        generalize vs 29 = q29
        generalize vs 30 = q30
        generalize vs 31 = q31
        generalize vs 32 = q32
        generalize vs 33 = q33
        generalize vs 34 = q34
        generalize vs 35 = q35
        generalize vs 36 = q36
        generalize vs 37 = q37
        generalize vs 38 = q38
        generalize vs 39 = q39
        generalize vs 40 = q40
        generalize vs 41 = q41
        generalize vs 42 = q42
        generalize vs 43 = q43
        generalize vs 44 = q44
        generalize vs 45 = q45
        generalize vs 46 = q46
        generalize vs 47 = q47
        generalize vs 48 = q48
        generalize vs 49 = q49
        generalize vs 50 = q50
        generalize vs 51 = q51
        generalize vs 52 = q52
        generalize vs 53 = q53
        generalize vs 54 = q54
        generalize vs 55 = q55
        generalize vs 56 = q56
        generalize vs 57 = q57
        generalize vs 58 = q58
        have B3 := Lib.hid (below_tr HB.out hb HB.out.size)
        clear hR hF hb
        go_wp2_with fail
        go_ret3
        exact ⟨B3.out, .inl rfl⟩
      · have h64' : ¬ (64 : Int) < (q.n : Int) := by omega
        have N64 := Lib.hid h64
        clear h64
        obtain ⟨L, hL⟩ : ∃ L, L = foldK [] (ks.take i) := ⟨_, rfl⟩
        rw [← hL] at HT
        have HLL : Hid (L.length ≤ 1000) := Lib.hid (by
          have h1 := foldK_len (ks.take i) []
          have h2 := List.length_take_le i ks
          have h3 := List.length_take_le' i ks
          have h4 := N60.out
          have h5 := K0.out.len
          rw [List.length_nil, ← hL] at h1
          omega)
        have HS : Hid ((addP (q.t, q.g) q.k L).2 = foldK [] (ks.take (i + 1))) := Lib.hid (by
          rw [List.take_add_one, HQ.out, Option.toList_some, foldK_snoc, hL])
        clear hL
        refine wp_wide6 (fun W => Below w.heap.size w W) (PreK w.heap.size g m w1.heap.size L) (StepK w.heap.size g m w1.heap.size) [⟨17, IsR (.slice (some x) n c), [], false⟩, ⟨18, IsR (.int .i64 (i : Int)), [], false⟩, ⟨19, IsR (.pointer (some (x.add (i * 3)))), [0, 1], false⟩, ⟨20, IsR (.pointer (some ((x.add (i * 3)).add 2))), [2], false⟩, ⟨21, IsR (.slice q.a q.n q.c), [3], false⟩, ⟨22, IsR (.int .i64 (q.n : Int)), [4], false⟩, ⟨23, IsR (.bool false), [5], false⟩, ⟨24, IsR (.bool false), [6], false⟩, ⟨25, IsR (.pointer (some ⟨g, 0, none⟩)), [7], false⟩, ⟨26, IsR (.slice (some x) n c), [7], false⟩, ⟨27, IsR (.int .i64 (i : Int)), [7], false⟩, ⟨28, IsR (.pointer (some (x.add (i * 3)))), [7, 9, 10], false⟩, ⟨29, IsR (.pointer (some (x.add (i * 3)))), [7, 11], false⟩, ⟨30, IsR (.int .u32 (q.t : Int)), [7, 12], false⟩, ⟨31, IsR (.slice (some x) n c), [7], false⟩, ⟨32, IsR (.int .i64 (i : Int)), [7], false⟩, ⟨33, IsR (.pointer (some (x.add (i * 3)))), [7, 14, 15], false⟩, ⟨34, IsR (.pointer (some ((x.add (i * 3)).add 1))), [7, 16], false⟩, ⟨35, IsR (.int .u16 (q.g : Int)), [7, 17], false⟩, ⟨36, IsR (.slice (some x) n c), [7], false⟩, ⟨37, IsR (.int .i64 (i : Int)), [7], false⟩, ⟨38, IsR (.pointer (some (x.add (i * 3)))), [7, 19, 20], false⟩, ⟨39, IsR (.pointer (some ((x.add (i * 3)).add 2))), [7, 21], false⟩, ⟨40, IsR (.slice q.a q.n q.c), [7, 22], false⟩, ⟨41, (fun z W => z = .int .i64 ((addP (q.t, q.g) q.k L).1 : Int) ∧ RgB W w.heap.size g m (addP (q.t, q.g) q.k L).2), [7, 8, 13, 18, 23], false⟩, ⟨42, IsR (.slice (some x) n c), [7], false⟩, ⟨43, IsR (.int .i64 (i : Int)), [7], false⟩, ⟨44, IsR (.pointer (some (x.add (i * 3)))), [7, 25, 26], false⟩, ⟨45, IsR (.pointer (some (x.add (i * 3)))), [7, 27], false⟩, ⟨46, IsR (.int .u32 (q.t : Int)), [7, 28], false⟩, ⟨47, IsR (.slice (some x) n c), [7], false⟩, ⟨48, IsR (.int .i64 (i : Int)), [7], false⟩, ⟨49, IsR (.pointer (some (x.add (i * 3)))), [7, 30, 31], false⟩, ⟨50, IsR (.pointer (some ((x.add (i * 3)).add 1))), [7, 32], false⟩, ⟨51, IsR (.int .u16 (q.g : Int)), [7, 33], false⟩, ⟨52, IsR (.slice (some x) n c), [7], false⟩, ⟨53, IsR (.int .i64 (i : Int)), [7], false⟩, ⟨54, IsR (.pointer (some (x.add (i * 3)))), [7, 35, 36], false⟩, ⟨55, IsR (.pointer (some ((x.add (i * 3)).add 2))), [7, 37], false⟩, ⟨56, IsR (.slice q.a q.n q.c), [7, 38], false⟩, ⟨57, (fun z W => z = .int .i64 ((addP (q.t, q.g) q.k L).1 : Int) ∧ ∃ v vs, RkB W w.heap.size w1.heap.size v vs (addP (q.t, q.g) q.k L).2), [7, 29, 34, 39], false⟩, ⟨58, IsR (.bool false), [7, 24, 40], false⟩] rfl (by kernel_rfl) (by kernel_rfl) rfl rfl stepK_pre (fun i W W1 h1 h2 => stepK_below B1.out.size h1 h2) (fun i W => .inl (Below.refl _ _)) (fun j => ⟨fun _ => HT.out.1.ab (Below.refl _ _).drew, fun _ => by obtain ⟨v, vs, h⟩ := HT.out.2; exact ⟨v, vs, h.ab (Below.refl _ _).drew⟩⟩) HB.out.drew ⟨?_, ?_, ?_, ?_, ?_, ?_, ?_, ?_, ?_, ?_, ?_, ?_, ?_, ?_, ?_, ?_, ?_, ?_, ?_, ?_, ?_, ?_, ?_, ?_, ?_, ?_, ?_, ?_, ?_, ?_, ?_, ?_, ?_, ?_, ?_, ?_, ?_, ?_, ?_, ?_, ?_, ?_, trivial⟩ ?_
        · refine ⟨rfl, fun j hj v W W1 h hs => h, fun a W hA hb hp hd => Takes.to6 (takes_plain rfl (yields_value _ ?_ rfl)) fun W1 h1 => .inl h1⟩
          have h0 : a.tmps[0]?.getD undef = .slice (some x) n c := (eval_get a 0).trans ((hA.eval (by simp)).trans rfl)
          go_simp
        · refine ⟨rfl, fun j hj v W W1 h hs => h, fun a W hA hb hp hd => Takes.to6 (takes_plain rfl (yields_value _ ?_ rfl)) fun W1 h1 => .inl h1⟩
          have h7 : a.tmps[7]?.getD undef = .int .i64 (i : Int) := (eval_get a 7).trans ((hA.eval (by simp)).trans rfl)
          go_simp
        · refine ⟨rfl, fun j hj v W W1 h hs => h, fun a W hA hb hp hd => Takes.to6 (takes_plain rfl (yields_value _ ?_ rfl)) fun W1 h1 => .inl h1⟩
          have h17 : a.tmps[17]?.getD undef = .slice (some x) n c := (eval_get a 17).trans (hd 0 (by simp) _ rfl)
          have h18 : a.tmps[18]?.getD undef = .int .i64 (i : Int) := (eval_get a 18).trans (hd 1 (by simp) _ rfl)
          go_simp
        · refine ⟨rfl, fun j hj v W W1 h hs => h, fun a W hA hb hp hd => Takes.to6 (takes_plain rfl (yields_value _ ?_ rfl)) fun W1 h1 => .inl h1⟩
          have h19 : a.tmps[19]?.getD undef = .pointer (some (x.add (i * 3))) := (eval_get a 19).trans (hd 2 (by simp) _ rfl)
          go_simp
        · refine ⟨rfl, fun j hj v W W1 h hs => h, fun a W hA hb hp hd => Takes.to6 (takes_plain rfl (yields_value _ ?_ rfl)) fun W1 h1 => .inl h1⟩
          have h20 : a.tmps[20]?.getD undef = .pointer (some ((x.add (i * 3)).add 2)) := (eval_get a 20).trans (hd 3 (by simp) _ rfl)
          have hc : W.cell? (⟨(x.add (i * 3)).block, (x.add (i * 3)).off + 2, none⟩) = some (.slice q.a q.n q.c) := keep_cell2 C2.out XL.out hb
          go_simp
        · refine ⟨rfl, fun j hj v W W1 h hs => h, fun a W hA hb hp hd => Takes.to6 (takes_plain rfl (yields_value _ ?_ rfl)) fun W1 h1 => .inl h1⟩
          have h21 : a.tmps[21]?.getD undef = .slice q.a q.n q.c := (eval_get a 21).trans (hd 4 (by simp) _ rfl)
          go_simp
        · refine ⟨rfl, fun j hj v W W1 h hs => h, fun a W hA hb hp hd => Takes.to6 (takes_plain rfl (yields_value _ ?_ rfl)) fun W1 h1 => .inl h1⟩
          have h22 : a.tmps[22]?.getD undef = .int .i64 (q.n : Int) := (eval_get a 22).trans (hd 5 (by simp) _ rfl)
          go_simp
        · refine ⟨rfl, fun j hj v W W1 h hs => h, fun a W hA hb hp hd => Takes.to6 (takes_plain rfl (yields_value _ ?_ rfl)) fun W1 h1 => .inl h1⟩
          have h23 : a.tmps[23]?.getD undef = .bool false := (eval_get a 23).trans (hd 6 (by simp) _ rfl)
          go_simp
        · refine ⟨rfl, fun j hj v W W1 h hs => h, fun a W hA hb hp hd => Takes.to6 (takes_on (i := 7) (d := 24) (b := false) rfl rfl rfl (hd 7 (by simp) _ rfl) (yields_value _ ?_ rfl)) fun W1 h1 => .inl h1⟩
          have h5 : a.tmps[5]?.getD undef = .pointer (some ⟨g, 0, none⟩) := (eval_get a 5).trans ((hA.eval (by simp)).trans rfl)
          go_simp
        · refine ⟨rfl, fun j hj v W W1 h hs => h, fun a W hA hb hp hd => Takes.to6 (takes_on (i := 7) (d := 24) (b := false) rfl rfl rfl (hd 7 (by simp) _ rfl) (yields_value _ ?_ rfl)) fun W1 h1 => .inl h1⟩
          have h0 : a.tmps[0]?.getD undef = .slice (some x) n c := (eval_get a 0).trans ((hA.eval (by simp)).trans rfl)
          go_simp
        · refine ⟨rfl, fun j hj v W W1 h hs => h, fun a W hA hb hp hd => Takes.to6 (takes_on (i := 7) (d := 24) (b := false) rfl rfl rfl (hd 7 (by simp) _ rfl) (yields_value _ ?_ rfl)) fun W1 h1 => .inl h1⟩
          have h7 : a.tmps[7]?.getD undef = .int .i64 (i : Int) := (eval_get a 7).trans ((hA.eval (by simp)).trans rfl)
          go_simp
        · refine ⟨rfl, fun j hj v W W1 h hs => h, fun a W hA hb hp hd => Takes.to6 (takes_on (i := 7) (d := 24) (b := false) rfl rfl rfl (hd 7 (by simp) _ rfl) (yields_value _ ?_ rfl)) fun W1 h1 => .inl h1⟩
          have h26 : a.tmps[26]?.getD undef = .slice (some x) n c := (eval_get a 26).trans (hd 9 (by simp) _ rfl)
          have h27 : a.tmps[27]?.getD undef = .int .i64 (i : Int) := (eval_get a 27).trans (hd 10 (by simp) _ rfl)
          go_simp
        · refine ⟨rfl, fun j hj v W W1 h hs => h, fun a W hA hb hp hd => Takes.to6 (takes_on (i := 7) (d := 24) (b := false) rfl rfl rfl (hd 7 (by simp) _ rfl) (yields_value _ ?_ rfl)) fun W1 h1 => .inl h1⟩
          have h28 : a.tmps[28]?.getD undef = .pointer (some (x.add (i * 3))) := (eval_get a 28).trans (hd 11 (by simp) _ rfl)
          go_simp
        · refine ⟨rfl, fun j hj v W W1 h hs => h, fun a W hA hb hp hd => Takes.to6 (takes_on (i := 7) (d := 24) (b := false) rfl rfl rfl (hd 7 (by simp) _ rfl) (yields_value _ ?_ rfl)) fun W1 h1 => .inl h1⟩
          have h29 : a.tmps[29]?.getD undef = .pointer (some (x.add (i * 3))) := (eval_get a 29).trans (hd 12 (by simp) _ rfl)
          have hc : W.cell? (x.add (i * 3)) = some (.int .u32 (q.t : Int)) := keep_cell C0.out XL.out hb
          go_simp
        · refine ⟨rfl, fun j hj v W W1 h hs => h, fun a W hA hb hp hd => Takes.to6 (takes_on (i := 7) (d := 24) (b := false) rfl rfl rfl (hd 7 (by simp) _ rfl) (yields_value _ ?_ rfl)) fun W1 h1 => .inl h1⟩
          have h0 : a.tmps[0]?.getD undef = .slice (some x) n c := (eval_get a 0).trans ((hA.eval (by simp)).trans rfl)
          go_simp
        · refine ⟨rfl, fun j hj v W W1 h hs => h, fun a W hA hb hp hd => Takes.to6 (takes_on (i := 7) (d := 24) (b := false) rfl rfl rfl (hd 7 (by simp) _ rfl) (yields_value _ ?_ rfl)) fun W1 h1 => .inl h1⟩
          have h7 : a.tmps[7]?.getD undef = .int .i64 (i : Int) := (eval_get a 7).trans ((hA.eval (by simp)).trans rfl)
          go_simp
        · refine ⟨rfl, fun j hj v W W1 h hs => h, fun a W hA hb hp hd => Takes.to6 (takes_on (i := 7) (d := 24) (b := false) rfl rfl rfl (hd 7 (by simp) _ rfl) (yields_value _ ?_ rfl)) fun W1 h1 => .inl h1⟩
          have h31 : a.tmps[31]?.getD undef = .slice (some x) n c := (eval_get a 31).trans (hd 14 (by simp) _ rfl)
          have h32 : a.tmps[32]?.getD undef = .int .i64 (i : Int) := (eval_get a 32).trans (hd 15 (by simp) _ rfl)
          go_simp
        · refine ⟨rfl, fun j hj v W W1 h hs => h, fun a W hA hb hp hd => Takes.to6 (takes_on (i := 7) (d := 24) (b := false) rfl rfl rfl (hd 7 (by simp) _ rfl) (yields_value _ ?_ rfl)) fun W1 h1 => .inl h1⟩
          have h33 : a.tmps[33]?.getD undef = .pointer (some (x.add (i * 3))) := (eval_get a 33).trans (hd 16 (by simp) _ rfl)
          go_simp
        · refine ⟨rfl, fun j hj v W W1 h hs => h, fun a W hA hb hp hd => Takes.to6 (takes_on (i := 7) (d := 24) (b := false) rfl rfl rfl (hd 7 (by simp) _ rfl) (yields_value _ ?_ rfl)) fun W1 h1 => .inl h1⟩
          have h34 : a.tmps[34]?.getD undef = .pointer (some ((x.add (i * 3)).add 1)) := (eval_get a 34).trans (hd 17 (by simp) _ rfl)
          have hc : W.cell? (⟨(x.add (i * 3)).block, (x.add (i * 3)).off + 1, none⟩) = some (.int .u16 (q.g : Int)) := keep_cell2 C1.out XL.out hb
          go_simp
        · refine ⟨rfl, fun j hj v W W1 h hs => h, fun a W hA hb hp hd => Takes.to6 (takes_on (i := 7) (d := 24) (b := false) rfl rfl rfl (hd 7 (by simp) _ rfl) (yields_value _ ?_ rfl)) fun W1 h1 => .inl h1⟩
          have h0 : a.tmps[0]?.getD undef = .slice (some x) n c := (eval_get a 0).trans ((hA.eval (by simp)).trans rfl)
          go_simp
        · refine ⟨rfl, fun j hj v W W1 h hs => h, fun a W hA hb hp hd => Takes.to6 (takes_on (i := 7) (d := 24) (b := false) rfl rfl rfl (hd 7 (by simp) _ rfl) (yields_value _ ?_ rfl)) fun W1 h1 => .inl h1⟩
          have h7 : a.tmps[7]?.getD undef = .int .i64 (i : Int) := (eval_get a 7).trans ((hA.eval (by simp)).trans rfl)
          go_simp
        · refine ⟨rfl, fun j hj v W W1 h hs => h, fun a W hA hb hp hd => Takes.to6 (takes_on (i := 7) (d := 24) (b := false) rfl rfl rfl (hd 7 (by simp) _ rfl) (yields_value _ ?_ rfl)) fun W1 h1 => .inl h1⟩
          have h36 : a.tmps[36]?.getD undef = .slice (some x) n c := (eval_get a 36).trans (hd 19 (by simp) _ rfl)
          have h37 : a.tmps[37]?.getD undef = .int .i64 (i : Int) := (eval_get a 37).trans (hd 20 (by simp) _ rfl)
          go_simp
        · refine ⟨rfl, fun j hj v W W1 h hs => h, fun a W hA hb hp hd => Takes.to6 (takes_on (i := 7) (d := 24) (b := false) rfl rfl rfl (hd 7 (by simp) _ rfl) (yields_value _ ?_ rfl)) fun W1 h1 => .inl h1⟩
          have h38 : a.tmps[38]?.getD undef = .pointer (some (x.add (i * 3))) := (eval_get a 38).trans (hd 21 (by simp) _ rfl)
          go_simp
        · refine ⟨rfl, fun j hj v W W1 h hs => h, fun a W hA hb hp hd => Takes.to6 (takes_on (i := 7) (d := 24) (b := false) rfl rfl rfl (hd 7 (by simp) _ rfl) (yields_value _ ?_ rfl)) fun W1 h1 => .inl h1⟩
          have h39 : a.tmps[39]?.getD undef = .pointer (some ((x.add (i * 3)).add 2)) := (eval_get a 39).trans (hd 22 (by simp) _ rfl)
          have hc : W.cell? (⟨(x.add (i * 3)).block, (x.add (i * 3)).off + 2, none⟩) = some (.slice q.a q.n q.c) := keep_cell2 C2.out XL.out hb
          go_simp
        · refine ⟨rfl, fun j hj v W W1 h hs => ⟨h.1, stepK_rg hj hs h.2⟩, fun a W hA hb hp hd => takes6_on (i := 7) (d := 24) (b := false) rfl rfl rfl (hd 7 (by simp) _ rfl) ?_⟩
          have h25 : a.tmps[25]?.getD undef = .pointer (some ⟨g, 0, none⟩) := (eval_get a 25).trans (hd 8 (by simp) _ rfl)
          have h30 : a.tmps[30]?.getD undef = .int .u32 (q.t : Int) := (eval_get a 30).trans (hd 13 (by simp) _ rfl)
          have h35 : a.tmps[35]?.getD undef = .int .u16 (q.g : Int) := (eval_get a 35).trans (hd 18 (by simp) _ rfl)
          have h40 : a.tmps[40]?.getD undef = .slice q.a q.n q.c := (eval_get a 40).trans (hd 23 (by simp) _ rfl)
          refine .inr ⟨21, #[.pointer (some ⟨g, 0, none⟩), .int .u32 (q.t : Int), .int .u16 (q.g : Int), .slice q.a q.n q.c], by go_simp, (ringAdd_any w.heap.size g m q.t q.g q.n q.c q.a q.k L W (hp.1 rfl) QT.out QG.out (IK.out.below hb)).mono ?_⟩
          rintro e W1 ⟨rfl, h1, h2⟩
          exact ⟨_, rfl, ⟨rfl, h1⟩, .inr (.inl ⟨rfl, ⟨_, hp.1 rfl⟩, h2⟩)⟩
        · refine ⟨rfl, fun j hj v W W1 h hs => h, fun a W hA hb hp hd => Takes.to6 (takes_on (i := 7) (d := 24) (b := false) rfl rfl rfl (hd 7 (by simp) _ rfl) (yields_value _ ?_ rfl)) fun W1 h1 => .inl h1⟩
          have h0 : a.tmps[0]?.getD undef = .slice (some x) n c := (eval_get a 0).trans ((hA.eval (by simp)).trans rfl)
          go_simp
        · refine ⟨rfl, fun j hj v W W1 h hs => h, fun a W hA hb hp hd => Takes.to6 (takes_on (i := 7) (d := 24) (b := false) rfl rfl rfl (hd 7 (by simp) _ rfl) (yields_value _ ?_ rfl)) fun W1 h1 => .inl h1⟩
          have h7 : a.tmps[7]?.getD undef = .int .i64 (i : Int) := (eval_get a 7).trans ((hA.eval (by simp)).trans rfl)
          go_simp
        · refine ⟨rfl, fun j hj v W W1 h hs => h, fun a W hA hb hp hd => Takes.to6 (takes_on (i := 7) (d := 24) (b := false) rfl rfl rfl (hd 7 (by simp) _ rfl) (yields_value _ ?_ rfl)) fun W1 h1 => .inl h1⟩
          have h42 : a.tmps[42]?.getD undef = .slice (some x) n c := (eval_get a 42).trans (hd 25 (by simp) _ rfl)
          have h43 : a.tmps[43]?.getD undef = .int .i64 (i : Int) := (eval_get a 43).trans (hd 26 (by simp) _ rfl)
          go_simp
        · refine ⟨rfl, fun j hj v W W1 h hs => h, fun a W hA hb hp hd => Takes.to6 (takes_on (i := 7) (d := 24) (b := false) rfl rfl rfl (hd 7 (by simp) _ rfl) (yields_value _ ?_ rfl)) fun W1 h1 => .inl h1⟩
          have h44 : a.tmps[44]?.getD undef = .pointer (some (x.add (i * 3))) := (eval_get a 44).trans (hd 27 (by simp) _ rfl)
          go_simp
        · refine ⟨rfl, fun j hj v W W1 h hs => h, fun a W hA hb hp hd => Takes.to6 (takes_on (i := 7) (d := 24) (b := false) rfl rfl rfl (hd 7 (by simp) _ rfl) (yields_value _ ?_ rfl)) fun W1 h1 => .inl h1⟩
          have h45 : a.tmps[45]?.getD undef = .pointer (some (x.add (i * 3))) := (eval_get a 45).trans (hd 28 (by simp) _ rfl)
          have hc : W.cell? (x.add (i * 3)) = some (.int .u32 (q.t : Int)) := keep_cell C0.out XL.out hb
          go_simp
        · refine ⟨rfl, fun j hj v W W1 h hs => h, fun a W hA hb hp hd => Takes.to6 (takes_on (i := 7) (d := 24) (b := false) rfl rfl rfl (hd 7 (by simp) _ rfl) (yields_value _ ?_ rfl)) fun W1 h1 => .inl h1⟩
          have h0 : a.tmps[0]?.getD undef = .slice (some x) n c := (eval_get a 0).trans ((hA.eval (by simp)).trans rfl)
          go_simp
        · refine ⟨rfl, fun j hj v W W1 h hs => h, fun a W hA hb hp hd => Takes.to6 (takes_on (i := 7) (d := 24) (b := false) rfl rfl rfl (hd 7 (by simp) _ rfl) (yields_value _ ?_ rfl)) fun W1 h1 => .inl h1⟩
          have h7 : a.tmps[7]?.getD undef = .int .i64 (i : Int) := (eval_get a 7).trans ((hA.eval (by simp)).trans rfl)
          go_simp
        · refine ⟨rfl, fun j hj v W W1 h hs => h, fun a W hA hb hp hd => Takes.to6 (takes_on (i := 7) (d := 24) (b := false) rfl rfl rfl (hd 7 (by simp) _ rfl) (yields_value _ ?_ rfl)) fun W1 h1 => .inl h1⟩
          have h47 : a.tmps[47]?.getD undef = .slice (some x) n c := (eval_get a 47).trans (hd 30 (by simp) _ rfl)
          have h48 : a.tmps[48]?.getD undef = .int .i64 (i : Int) := (eval_get a 48).trans (hd 31 (by simp) _ rfl)
          go_simp
        · refine ⟨rfl, fun j hj v W W1 h hs => h, fun a W hA hb hp hd => Takes.to6 (takes_on (i := 7) (d := 24) (b := false) rfl rfl rfl (hd 7 (by simp) _ rfl) (yields_value _ ?_ rfl)) fun W1 h1 => .inl h1⟩
          have h49 : a.tmps[49]?.getD undef = .pointer (some (x.add (i * 3))) := (eval_get a 49).trans (hd 32 (by simp) _ rfl)
          go_simp
        · refine ⟨rfl, fun j hj v W W1 h hs => h, fun a W hA hb hp hd => Takes.to6 (takes_on (i := 7) (d := 24) (b := false) rfl rfl rfl (hd 7 (by simp) _ rfl) (yields_value _ ?_ rfl)) fun W1 h1 => .inl h1⟩
          have h50 : a.tmps[50]?.getD undef = .pointer (some ((x.add (i * 3)).add 1)) := (eval_get a 50).trans (hd 33 (by simp) _ rfl)
          have hc : W.cell? (⟨(x.add (i * 3)).block, (x.add (i * 3)).off + 1, none⟩) = some (.int .u16 (q.g : Int)) := keep_cell2 C1.out XL.out hb
          go_simp
        · refine ⟨rfl, fun j hj v W W1 h hs => h, fun a W hA hb hp hd => Takes.to6 (takes_on (i := 7) (d := 24) (b := false) rfl rfl rfl (hd 7 (by simp) _ rfl) (yields_value _ ?_ rfl)) fun W1 h1 => .inl h1⟩
          have h0 : a.tmps[0]?.getD undef = .slice (some x) n c := (eval_get a 0).trans ((hA.eval (by simp)).trans rfl)
          go_simp
        · refine ⟨rfl, fun j hj v W W1 h hs => h, fun a W hA hb hp hd => Takes.to6 (takes_on (i := 7) (d := 24) (b := false) rfl rfl rfl (hd 7 (by simp) _ rfl) (yields_value _ ?_ rfl)) fun W1 h1 => .inl h1⟩
          have h7 : a.tmps[7]?.getD undef = .int .i64 (i : Int) := (eval_get a 7).trans ((hA.eval (by simp)).trans rfl)
          go_simp
        · refine ⟨rfl, fun j hj v W W1 h hs => h, fun a W hA hb hp hd => Takes.to6 (takes_on (i := 7) (d := 24) (b := false) rfl rfl rfl (hd 7 (by simp) _ rfl) (yields_value _ ?_ rfl)) fun W1 h1 => .inl h1⟩
          have h52 : a.tmps[52]?.getD undef = .slice (some x) n c := (eval_get a 52).trans (hd 35 (by simp) _ rfl)
          have h53 : a.tmps[53]?.getD undef = .int .i64 (i : Int) := (eval_get a 53).trans (hd 36 (by simp) _ rfl)
          go_simp
        · refine ⟨rfl, fun j hj v W W1 h hs => h, fun a W hA hb hp hd => Takes.to6 (takes_on (i := 7) (d := 24) (b := false) rfl rfl rfl (hd 7 (by simp) _ rfl) (yields_value _ ?_ rfl)) fun W1 h1 => .inl h1⟩
          have h54 : a.tmps[54]?.getD undef = .pointer (some (x.add (i * 3))) := (eval_get a 54).trans (hd 37 (by simp) _ rfl)
          go_simp
        · refine ⟨rfl, fun j hj v W W1 h hs => h, fun a W hA hb hp hd => Takes.to6 (takes_on (i := 7) (d := 24) (b := false) rfl rfl rfl (hd 7 (by simp) _ rfl) (yields_value _ ?_ rfl)) fun W1 h1 => .inl h1⟩
          have h55 : a.tmps[55]?.getD undef = .pointer (some ((x.add (i * 3)).add 2)) := (eval_get a 55).trans (hd 38 (by simp) _ rfl)
          have hc : W.cell? (⟨(x.add (i * 3)).block, (x.add (i * 3)).off + 2, none⟩) = some (.slice q.a q.n q.c) := keep_cell2 C2.out XL.out hb
          go_simp
        · refine ⟨rfl, fun j hj v W W1 h hs => ⟨h.1, stepK_rk hj hs h.2⟩, fun a W hA hb hp hd => takes6_on (i := 7) (d := 24) (b := false) rfl rfl rfl (hd 7 (by simp) _ rfl) ?_⟩
          have h6 : a.tmps[6]?.getD undef = .pointer (some ⟨w1.heap.size, 0, none⟩) := (eval_get a 6).trans ((hA.eval (by simp)).trans rfl)
          have h46 : a.tmps[46]?.getD undef = .int .u32 (q.t : Int) := (eval_get a 46).trans (hd 29 (by simp) _ rfl)
          have h51 : a.tmps[51]?.getD undef = .int .u16 (q.g : Int) := (eval_get a 51).trans (hd 34 (by simp) _ rfl)
          have h56 : a.tmps[56]?.getD undef = .slice q.a q.n q.c := (eval_get a 56).trans (hd 39 (by simp) _ rfl)
          obtain ⟨rv, rvs, hrk⟩ := hp.2 rfl
          refine .inr ⟨22, #[.pointer (some ⟨w1.heap.size, 0, none⟩), .int .u32 (q.t : Int), .int .u16 (q.g : Int), .slice q.a q.n q.c], by go_simp, (rkAdd_far w.heap.size w1.heap.size q.t q.g rv rvs L q.a q.n q.c q.k w W hrk (Nat.le_refl _) QT.out QG.out HLL.out IK.out (IK.out.below hb)).mono ?_⟩
          rintro e W1 ⟨v1, vs1, rfl, h1, h2⟩
          exact ⟨_, rfl, ⟨rfl, v1, vs1, h1⟩, .inr (.inr ⟨rfl, rv, rvs, L, hrk, h2⟩)⟩
        · refine ⟨rfl, fun j hj v W W1 h hs => h, fun a W hA hb hp hd => Takes.to6 (takes_on (i := 7) (d := 24) (b := false) rfl rfl rfl (hd 7 (by simp) _ rfl) (yields_value _ ?_ rfl)) fun W1 h1 => .inl h1⟩
          have h41 : a.tmps[41]?.getD undef = .int .i64 ((addP (q.t, q.g) q.k L).1 : Int) := (eval_get a 41).trans (hd 24 (by simp) _ rfl).1
          have h57 : a.tmps[57]?.getD undef = .int .i64 ((addP (q.t, q.g) q.k L).1 : Int) := (eval_get a 57).trans (hd 40 (by simp) _ rfl).1
          go_simp
        intro vs w3 hR hb
        have e17 : vs 17 = .slice (some x) n c := hR 0 _ rfl
        have e18 : vs 18 = .int .i64 (i : Int) := hR 1 _ rfl
        have e19 : vs 19 = .pointer (some (x.add (i * 3))) := hR 2 _ rfl
        have e20 : vs 20 = .pointer (some ((x.add (i * 3)).add 2)) := hR 3 _ rfl
        have e21 : vs 21 = .slice q.a q.n q.c := hR 4 _ rfl
        have e22 : vs 22 = .int .i64 (q.n : Int) := hR 5 _ rfl
        have e23 : vs 23 = .bool false := hR 6 _ rfl
        have e24 : vs 24 = .bool false := hR 7 _ rfl
        have e25 : vs 25 = .pointer (some ⟨g, 0, none⟩) := hR 8 _ rfl
        have e26 : vs 26 = .slice (some x) n c := hR 9 _ rfl
        have e27 : vs 27 = .int .i64 (i : Int) := hR 10 _ rfl
        have e28 : vs 28 = .pointer (some (x.add (i * 3))) := hR 11 _ rfl
        have e29 : vs 29 = .pointer (some (x.add (i * 3))) := hR 12 _ rfl
        have e30 : vs 30 = .int .u32 (q.t : Int) := hR 13 _ rfl
        have e31 : vs 31 = .slice (some x) n c := hR 14 _ rfl
        have e32 : vs 32 = .int .i64 (i : Int) := hR 15 _ rfl
        have e33 : vs 33 = .pointer (some (x.add (i * 3))) := hR 16 _ rfl
        have e34 : vs 34 = .pointer (some ((x.add (i * 3)).add 1)) := hR 17 _ rfl
        have e35 : vs 35 = .int .u16 (q.g : Int) := hR 18 _ rfl
        have e36 : vs 36 = .slice (some x) n c := hR 19 _ rfl
        have e37 : vs 37 = .int .i64 (i : Int) := hR 20 _ rfl
        have e38 : vs 38 = .pointer (some (x.add (i * 3))) := hR 21 _ rfl
        have e39 : vs 39 = .pointer (some ((x.add (i * 3)).add 2)) := hR 22 _ rfl
        have e40 : vs 40 = .slice q.a q.n q.c := hR 23 _ rfl
        have e41 : vs 41 = .int .i64 ((addP (q.t, q.g) q.k L).1 : Int) := (hR 24 _ rfl).1
        have e42 : vs 42 = .slice (some x) n c := hR 25 _ rfl
        have e43 : vs 43 = .int .i64 (i : Int) := hR 26 _ rfl
        have e44 : vs 44 = .pointer (some (x.add (i * 3))) := hR 27 _ rfl
        have e45 : vs 45 = .pointer (some (x.add (i * 3))) := hR 28 _ rfl
        have e46 : vs 46 = .int .u32 (q.t : Int) := hR 29 _ rfl
        have e47 : vs 47 = .slice (some x) n c := hR 30 _ rfl
        have e48 : vs 48 = .int .i64 (i : Int) := hR 31 _ rfl
        have e49 : vs 49 = .pointer (some (x.add (i * 3))) := hR 32 _ rfl
        have e50 : vs 50 = .pointer (some ((x.add (i * 3)).add 1)) := hR 33 _ rfl
        have e51 : vs 51 = .int .u16 (q.g : Int) := hR 34 _ rfl
        have e52 : vs 52 = .slice (some x) n c := hR 35 _ rfl
        have e53 : vs 53 = .int .i64 (i : Int) := hR 36 _ rfl
        have e54 : vs 54 = .pointer (some (x.add (i * 3))) := hR 37 _ rfl
        have e55 : vs 55 = .pointer (some ((x.add (i * 3)).add 2)) := hR 38 _ rfl
        have e56 : vs 56 = .slice q.a q.n q.c := hR 39 _ rfl
        have e57 : vs 57 = .int .i64 ((addP (q.t, q.g) q.k L).1 : Int) := (hR 40 _ rfl).1
        have e58 : vs 58 = .bool false := hR 41 _ rfl
        simp only [List.map_cons, List.map_nil, List.foldl_cons, List.foldl_nil, List.length_cons, List.length_nil, List.drop_succ_cons, List.drop_zero, Act.put, List.setIfInBounds_toArray, List.set_cons_zero, List.set_cons_succ, e17, e18, e19, e20, e21, e22, e23, e24, e25, e26, e27, e28, e29, e30, e31, e32, e33, e34, e35, e36, e37, e38, e39, e40, e41, e42, e43, e44, e45, e46, e47, e48, e49, e50, e51, e52, e53, e54, e55, e56, e57, e58]
        have B3 := Lib.hid hb
        have T3 : Hid (Two w.heap.size g m w1.heap.size (foldK [] (ks.take (i + 1))) w3) := Lib.hid (by
          rw [← HS.out]
          exact ⟨(hR 24 _ rfl).2, (hR 40 _ rfl).2⟩)
        clear hR hb
        go_wp2_with fail
        go_roundw
        case rel => exact ⟨i + 1, HL.out, by go_num, B3.out, T3.out⟩
        case measure => simp [intOf]; have := HL.out; omega
    · obtain rfl : i = n := by omega
      have HT := Lib.hid hT
      have HB := Lib.hid hb
      clear hlt hi hT hb
      go_wp2_with fail
      go_ret3
      refine ⟨HB.out, .inr ⟨g, m, _, _, rfl, HT.out, ?_⟩⟩
      have := foldK_len (ks.take i) []
      have h2 := List.length_take_le i ks
      have h3 := N60.out
      rw [List.length_nil] at this
      omega
end Go.Proofs.YtmeakfocppooiaaGreat
