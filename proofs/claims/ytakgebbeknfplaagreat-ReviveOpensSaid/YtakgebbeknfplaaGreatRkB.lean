/-
  THE REFERENCE's RINGS: what one is in memory; the walk of At.
  THE REFERENCE's RINGS: the walk of Add.
-/
import Derived.Test.YtakgebbeknfplaaGreatLgA
import Derived.Test.YtakgebbeknfplaaGreatWid6
namespace Go.Proofs.YtakgebbeknfplaaGreat
open Go.RowKit
set_option linter.unusedVariables false

def keyCs : List ((Nat × Nat) × Value) → List Value
  | [] => []
  | p :: r => [.int .u32 (p.1.1 : Int), .int .u16 (p.1.2 : Int), p.2] ++ keyCs r
theorem keyCs_snoc (vs : List ((Nat × Nat) × Value)) (p : (Nat × Nat) × Value) : keyCs (vs ++ [p]) = keyCs vs ++ [.int .u32 (p.1.1 : Int), .int .u16 (p.1.2 : Int), p.2] := by
  induction vs with
  | nil => rfl
  | cons q r ih => rw [List.cons_append, keyCs, ih, keyCs, List.append_assoc]
theorem keyCs_at : ∀ (vs : List ((Nat × Nat) × Value)) (i : Nat) (p : (Nat × Nat) × Value), vs[i]? = some p → (keyCs vs)[i * 3]? = some (.int .u32 (p.1.1 : Int)) ∧ (keyCs vs)[i * 3 + 1]? = some (.int .u16 (p.1.2 : Int)) ∧ (keyCs vs)[i * 3 + 2]? = some p.2
  | [], i, p, h => by simp at h
  | q :: vs, 0, p, h => by
    simp only [List.getElem?_cons_zero, Option.some.injEq] at h
    subst h
    exact ⟨rfl, rfl, rfl⟩
  | q :: vs, i + 1, p, h => by
    have := keyCs_at vs i p (by simpa using h)
    rw [show (i + 1) * 3 = i * 3 + 1 + 1 + 1 by omega]
    exact this
theorem RgV.at {w : World} {B : Nat} : ∀ {vs : List ((Nat × Nat) × Value)} {l : RgL}, RgV w B vs l → ∀ {i : Nat} {q : (Nat × Nat) × List Nat}, l[i]? = some q → ∃ v, vs[i]? = some (q.1, v) ∧ OwB w B v q.2
  | [], [], _, i, q, hq => by simp at hq
  | p :: ps, q0 :: qs, h, 0, q, hq => by
    simp only [List.getElem?_cons_zero, Option.some.injEq] at hq
    subst hq
    exact ⟨p.2, by rw [← h.1.1]; rfl, h.1.2⟩
  | p :: ps, q0 :: qs, h, i + 1, q, hq => by
    obtain ⟨v, h1, h2⟩ := RgV.at h.2 (i := i) (q := q) (by simpa using hq)
    exact ⟨v, by simpa using h1, h2⟩
  | [], _ :: _, h, _, _, _ => h.elim
  | _ :: _, [], h, _, _, _ => h.elim
theorem RgV.len {w : World} {B : Nat} : ∀ {vs : List ((Nat × Nat) × Value)} {l : RgL}, RgV w B vs l → vs.length = l.length
  | [], [], _ => rfl
  | p :: ps, q :: qs, h => by rw [List.length_cons, List.length_cons, RgV.len h.2]
  | [], _ :: _, h => h.elim
  | _ :: _, [], h => h.elim
/-- THE REFERENCE's RING -/
structure RkB (w : World) (B g : Nat) (v : Value) (vs : List ((Nat × Nat) × Value)) (l : RgL) : Prop where
  box : CbB w g 40 #[v]
  own : w.ownsRow B 176 3 v l.length (keyCs vs)
  vals : RgV w B vs l
  low : B ≤ w.heap.size
  ne : ∀ p ∈ l, KeyOk p.2
section
variable {w w' : World} {B g : Nat} {v : Value} {vs : List ((Nat × Nat) × Value)} {l : RgL}
theorem RkB.ab (h : RkB w B g v vs l) (hb : Below w.heap.size w w') : RkB w' B g v vs l :=
  ⟨h.box.ab hb, h.own.kept (row := none) (grown_of hb none) (by cases hv : v.ownBlock <;> simp), h.vals.ab hb, Nat.le_trans h.low hb.size, h.ne⟩
theorem RkB.form (h : RkB w B g v vs l) (hl : 0 < l.length) : ∃ gb cap, v = .slice (some ⟨gb, 0, none⟩) l.length cap ∧ B ≤ gb ∧ gb < w.heap.size ∧ l.length ≤ cap ∧ cap ≤ 9223372036854775807 ∧ ∀ (i : Nat) (q : (Nat × Nat) × List Nat), l[i]? = some q → ∃ u, w.cell? ⟨gb, i * 3, none⟩ = some (.int .u32 (q.1.1 : Int)) ∧ w.cell? ⟨gb, i * 3 + 1, none⟩ = some (.int .u16 (q.1.2 : Int)) ∧ w.cell? ⟨gb, i * 3 + 2, none⟩ = some u ∧ OwB w B u q.2 := by
  rcases h.own.2 with ⟨_, h0⟩ | ⟨gb, cap, cur, rfl, hg, hh, hnc, hcm, hcs, ht⟩
  · omega
  · refine ⟨gb, cap, rfl, hg, ?_, hnc, hcm, fun i q hq => ?_⟩
    · rcases Nat.lt_or_ge gb w.heap.size with h' | h'
      · exact h'
      · rw [Array.getElem?_eq_none h'] at hh; cases hh
    · obtain ⟨u, hu, ho⟩ := h.vals.at hq
      obtain ⟨k0, k1, k2⟩ := keyCs_at vs i _ hu
      have hcell : ∀ j x, (keyCs vs)[j]? = some x → w.cell? ⟨gb, j, none⟩ = some x := fun j x hx => by
        have := h.own.cells (g := gb) rfl j x hx
        rwa [Addr.add_mid, Nat.zero_add] at this
      exact ⟨u, hcell _ _ k0, hcell _ _ k1, hcell _ _ k2, ho⟩
end
theorem getR_none {x : Nat × Nat} {l : RgL} : getR x l = none ↔ ∀ p ∈ l, p.1 ≠ x := by
  unfold getR
  rw [Option.map_eq_none_iff, List.find?_eq_none]
  simp
theorem getR_idx {x : Nat × Nat} : ∀ {l : RgL} {k : List Nat}, getR x l = some k → ∃ i, l[i]? = some (x, k) ∧ ∀ (j : Nat) (q : (Nat × Nat) × List Nat), j < i → l[j]? = some q → q.1 ≠ x
  | [], k, h => by cases h
  | p :: r, k, h => by
    by_cases hx : p.1 = x
    · have : k = p.2 := by
        unfold getR at h
        rw [List.find?_cons_of_pos (by simpa using hx)] at h
        injection h with h
        exact h.symm
      refine ⟨0, by rw [this, ← hx]; rfl, fun j q hj => absurd hj (Nat.not_lt_zero j)⟩
    · have h2 : getR x r = some k := by
        unfold getR at h ⊢
        rwa [List.find?_cons_of_neg (by simpa using hx)] at h
      obtain ⟨i, h3, h4⟩ := getR_idx h2
      refine ⟨i + 1, by simpa using h3, fun j q hj hq => ?_⟩
      cases j with
      | zero =>
        simp only [List.getElem?_cons_zero, Option.some.injEq] at hq
        subst hq
        exact hx
      | succ j => exact h4 j q (by omega) (by simpa using hq)
set_option maxRecDepth 100000 in
set_option maxHeartbeats 4000000 in
/-- what stands at some place ahead of which the key does not stand, or at none -/
theorem rat_any (B g t gn : Nat) (v : Value) (vs : List ((Nat × Nat) × Value)) (l : RgL) (w : World) (h : RkB w B g v vs l) (ht : t < 4294967296) (hg : gn < 65536) (h200 : l.length ≤ 1000) (idx : Int)
    (hx : (idx = -1 ∧ getR (t, gn) l = none) ∨ ∃ (i : Nat) (k : List Nat), idx = (i : Int) ∧ l[i]? = some ((t, gn), k) ∧ ∀ (j : Nat) (q : (Nat × Nat) × List Nat), j < i → l[j]? = some q → q.1 ≠ (t, gn)) :
    Calls Tryz.prog 80 #[.pointer (some ⟨g, 0, none⟩), .int .u32 (t : Int), .int .u16 (gn : Int)] w fun e w' => e = .returned (.int .i64 idx) ∧ w = w' := by
  have hc : w.cell? ⟨g, 0, none⟩ = some v := h.box.cell (k := 0) rfl
  have HF := Lib.hid h.form
  obtain ⟨A, cap, rfl⟩ := row_shape h.own
  have HX := Lib.hid hx
  obtain ⟨n, hn⟩ : ∃ n, n = l.length := ⟨_, rfl⟩
  rw [← hn] at HF hc h200
  have HN := Lib.hid hn
  have hnb : (n : Int) ≤ 1000 := by omega
  clear h hx hn ht hg h200
  go_enter Tryz.func80, Tryz.ntmps80
  go_wp2_with fail
  go_loop [7] (fun z => ∃ i : Nat, i ≤ n ∧ z = .int .i64 (i : Int) ∧ ∀ (j : Nat) (q : (Nat × Nat) × List Nat), j < i → l[j]? = some q → q.1 ≠ (t, gn)) (fun z => n - (intOf z).toNat)
  case atStart => exact ⟨0, Nat.zero_le _, rfl, fun j q hj => absurd hj (Nat.not_lt_zero j)⟩
  case round =>
    obtain ⟨i, hi, rfl, hno⟩ := hrel
    have HNO := Lib.hid hno
    clear hno
    by_cases hlt : i < n
    · obtain ⟨q, hq⟩ : ∃ q, l[i]? = some q := ⟨_, List.getElem?_eq_getElem (by rw [← HN.out]; exact hlt)⟩
      obtain ⟨gb, cap', he, _, _, hnc, hcm, hcell⟩ := HF.out (by omega)
      injection he with he1 _ he3
      subst he1 he3
      obtain ⟨u, c0, c1, _, _⟩ := hcell i q hq
      have HQ := Lib.hid hq
      have HLT := Lib.hid hlt
      have hlti : (i : Int) < (n : Int) := by omega
      obtain ⟨⟨qt, qg⟩, qk⟩ := q
      simp only at c0 c1
      clear hq hcell hlt hnc hcm
      by_cases e1 : qt = t
      · have d1 : ((qt : Int) == (t : Int)) = true := by simp [e1]
        by_cases e2 : qg = gn
        · have d2 : ((qg : Int) == (gn : Int)) = true := by simp [e2]
          have hidx : Hid (idx = (i : Int)) := Lib.hid (by
            rcases HX.out with ⟨_, h2⟩ | ⟨i', k, h2, h3, h4⟩
            · exact absurd (by rw [e1, e2]) (getR_none.1 h2 _ (List.mem_of_getElem? HQ.out))
            · rw [h2]
              have h5 : ¬ i' < i := fun hlt' => HNO.out i' _ hlt' h3 rfl
              have h6 : ¬ i < i' := fun hlt' => h4 i _ hlt' HQ.out (by rw [e1, e2])
              have : i' = i := by omega
              rw [this])
          clear e1 e2
          go_wp2_with fail
          go_ret
          exact ⟨by rw [hidx.out]; rfl, rfl⟩
        · have d2 : ((qg : Int) == (gn : Int)) = false := by simp; omega
          have hstep : Hid (∀ (j : Nat) (q : (Nat × Nat) × List Nat), j < i + 1 → l[j]? = some q → q.1 ≠ (t, gn)) := Lib.hid fun j q hj hq => by
            by_cases hji : j = i
            · subst hji
              rw [HQ.out] at hq
              injection hq with hq
              subst hq
              exact fun e => e2 (congrArg Prod.snd e)
            · exact HNO.out j q (by omega) hq
          clear e1 e2
          go_wp2_with fail
          go_round
          case rel => exact ⟨i + 1, HLT.out, by go_num, hstep.out⟩
          case measure => simp [intOf]; have := HLT.out; omega
      · have d1 : ((qt : Int) == (t : Int)) = false := by simp; omega
        have hstep : Hid (∀ (j : Nat) (q : (Nat × Nat) × List Nat), j < i + 1 → l[j]? = some q → q.1 ≠ (t, gn)) := Lib.hid fun j q hj hq => by
          by_cases hji : j = i
          · subst hji
            rw [HQ.out] at hq
            injection hq with hq
            subst hq
            exact fun e => e1 (congrArg Prod.fst e)
          · exact HNO.out j q (by omega) hq
        clear e1
        go_wp2_with fail
        go_round
        case rel => exact ⟨i + 1, HLT.out, by go_num, hstep.out⟩
        case measure => simp [intOf]; have := HLT.out; omega
    · obtain rfl : i = n := by omega
      have hidx : Hid (idx = -1) := Lib.hid (by
        rcases HX.out with ⟨h1, _⟩ | ⟨i', k, h2, h3, h4⟩
        · exact h1
        · exact absurd rfl (HNO.out i' _ (by rw [HN.out]; exact (List.getElem?_eq_some_iff.1 h3).1) h3))
      clear hlt hi
      go_wp2_with fail
      go_ret
      exact ⟨by rw [hidx.out]; rfl, rfl⟩
end Go.Proofs.YtakgebbeknfplaaGreat

namespace Go.Proofs.YtakgebbeknfplaaGreat
open Go.RowKit
set_option linter.unusedVariables false

section
variable {w w' : World} {F : Nat → Prop}
theorem CbB.fr {g : Nat} {T : TypeId} {cs : Array Value} (h : CbB w g T cs) (hf : Fr w w' F) (hn : ¬ F g) : CbB w' g T cs := (hf.block g h.lt hn).trans h
theorem IsB.fr {A : Option Addr} {n c : Nat} {l : List Nat} (h : IsB w A n c l) (hf : Fr w w' F) (hn : ∀ x, A = Option.some x → ¬ F x.block) : IsB w' A n c l :=
  ⟨h.1.keep hf.size fun x i e hi => World.cell?_of_block (by
    rw [add_block]
    obtain ⟨y, e', hy, _⟩ := h.1.at (by omega)
    rw [e] at e'
    injection e' with e'
    exact hf.block _ (by rw [e']; exact hy) (hn x e)), h.2⟩
theorem OwB.fr {B : Nat} {v : Value} {l : List Nat} (h : OwB w B v l) (hf : Fr w w' F) (hn : ∀ g, v.ownBlock = some g → ¬ F g) : OwB w' B v l := by
  refine ⟨⟨h.own.1, ?_⟩, h.byt⟩
  rcases h.own.2 with hx | ⟨g, cap, cur, rfl, hb, hh, rest⟩
  · exact .inl hx
  · have hg : g < w.heap.size := (Array.getElem?_eq_some_iff.1 hh).1
    exact .inr ⟨g, cap, cur, rfl, hb, (hf.block g hg (hn g rfl)).trans hh, rest⟩
theorem row_fr {B n s : Nat} {e : TypeId} {v : Value} {xs : List Value} (h : w.ownsRow B e s v n xs) (hf : Fr w w' F) (hn : ∀ g, v.ownBlock = some g → ¬ F g) : w'.ownsRow B e s v n xs := by
  refine ⟨h.1, ?_⟩
  rcases h.2 with hx | ⟨g, cap, cur, rfl, hb, hh, rest⟩
  · exact .inl hx
  · have hg : g < w.heap.size := (Array.getElem?_eq_some_iff.1 hh).1
    exact .inr ⟨g, cap, cur, rfl, hb, (hf.block g hg (hn g rfl)).trans hh, rest⟩
theorem row_ne {B n s g : Nat} {e T : TypeId} {v : Value} {xs : List Value} {cs : Array Value} (h : w.ownsRow B e s v n xs) (hc : CbB w g T cs) (hT : T ≠ e) : v.ownBlock ≠ some g := by
  intro he
  rcases h.2 with ⟨rfl, _⟩ | ⟨g', cap, cur, rfl, _, hh, _⟩
  · cases he
  · have : g' = g := by injection he
    subst this
    unfold CbB at hc
    rw [hc] at hh
    injection hh with hh
    injection hh with h1 h2
    exact hT h2
theorem row_own_ne {B B' n s : Nat} {e : TypeId} {v u : Value} {xs : List Value} {k : List Nat} (h : w.ownsRow B e s v n xs) (ho : OwB w B' u k) (hT : e ≠ 5) : ∀ g, u.ownBlock = some g → v.ownBlock ≠ some g := by
  intro g hg he
  rcases h.2 with ⟨rfl, _⟩ | ⟨g', cap, cur, rfl, _, hh, _⟩
  · cases he
  · have e1 : g' = g := by injection he
    rcases ho.own.2 with ⟨rfl, _⟩ | ⟨g2, cap2, cur2, rfl, _, hh2, _⟩
    · cases hg
    · have e2 : g2 = g := by injection hg
      subst e1
      subst e2
      rw [hh2] at hh
      injection hh with hh
      injection hh with h1 h2
      exact hT h2.symm
end
theorem own_ne' {w : World} {B lg : Nat} {T : TypeId} {cs : Array Value} {v : Value} {k : List Nat} (hT : T ≠ 5) (hl : CbB w lg T cs) (ho : OwB w B v k) : v.ownBlock ≠ some lg := by
  intro e
  rcases ho.own.2 with ⟨rfl, _⟩ | ⟨g, cap, cur, rfl, _, hh, _⟩
  · cases e
  · have : g = lg := by injection e
    subst this
    unfold CbB at hl
    rw [hl] at hh
    injection hh with hh
    injection hh with h1 h2
    exact hT h2
/-- a key's fresh copy -/
def CpyR (S kn : Nat) (key : List Nat) (v : Value) (W : World) : Prop := ∃ G, v = .slice (some ⟨G, 0, none⟩) kn (kn + 3) ∧ S ≤ G ∧ OwB W S v key
theorem CpyR.fr {S kn : Nat} {key : List Nat} {v : Value} {W W' : World} {F : Nat → Prop} (h : CpyR S kn key v W) (hf : Fr W W' F) (hF : ∀ k, F k → k < S) : CpyR S kn key v W' := by
  obtain ⟨G, rfl, h1, h2⟩ := h
  exact ⟨G, rfl, h1, h2.fr hf fun g hg hfg => by have := hF g hfg; have : G = g := by injection hg
                                                 omega⟩
theorem infoKey : (Tryz.prog.info? 176).map (fun i => (i.zero, i.size, i.bytes)) = some (some (.agg #[.int .u32 0, .int .u16 0, .slice none 0 0]), 3, 32) := by kernel_rfl
set_option maxRecDepth 100000 in
set_option maxHeartbeats 1000000 in
theorem rkAdd_arg (g : Nat) (x y : Value) (kA : Option Addr) (kn kc : Nat) (w : World) (hk : ¬ (kn = 16 ∨ kn = 32)) :
    Calls Tryz.prog 17 #[.pointer (some ⟨g, 0, none⟩), x, y, .slice kA kn kc] w fun e w' => e = .returned (.int .i64 2) ∧ w = w' := by
  have HM := Lib.hid (may_no kA kn kc w (by omega) (by omega))
  clear hk
  go_enter Tryz.func17, Tryz.ntmps17
  go_wp2_with fail
  refine HM.out.mono ?_
  rintro e w' ⟨rfl, rfl⟩
  go_wp2_with fail
  go_ret
  exact ⟨rfl, rfl⟩
set_option maxRecDepth 100000 in
set_option maxHeartbeats 1000000 in
theorem rkAdd_twice (B g t gn : Nat) (v : Value) (vs : List ((Nat × Nat) × Value)) (l : RgL) (kA : Option Addr) (kn kc : Nat) (w : World) (h : RkB w B g v vs l) (ht : t < 4294967296) (hg : gn < 65536) (h200 : l.length ≤ 1000) (hk : kn = 16 ∨ kn = 32) {k : List Nat} (hs : getR (t, gn) l = some k) :
    Calls Tryz.prog 17 #[.pointer (some ⟨g, 0, none⟩), .int .u32 (t : Int), .int .u16 (gn : Int), .slice kA kn kc] w fun e w' => e = .returned (.int .i64 8) ∧ w = w' := by
  have HM := Lib.hid (may_yes kA kn kc w hk)
  obtain ⟨i, h1, h2⟩ := getR_idx hs
  have HA := Lib.hid (rat_any B g t gn v vs l w h ht hg h200 (i : Int) (.inr ⟨i, k, rfl, h1, h2⟩))
  clear h ht hg h200 hk hs h1 h2
  go_enter Tryz.func17, Tryz.ntmps17
  go_wp2_with fail
  refine HM.out.mono ?_
  rintro e w' ⟨rfl, rfl⟩
  go_wp2_with fail
  refine HA.out.mono ?_
  rintro e w' ⟨rfl, rfl⟩
  go_wp2_with fail
  go_ret
  exact ⟨rfl, rfl⟩
set_option maxRecDepth 100000 in
set_option maxHeartbeats 4000000 in
theorem rkAdd_yes (B g t gn : Nat) (v : Value) (vs : List ((Nat × Nat) × Value)) (l : RgL) (kA : Option Addr) (kn kc : Nat) (key : List Nat) (w : World) (h : RkB w B g v vs l) (ht : t < 4294967296) (hg : gn < 65536) (h200 : l.length ≤ 1000) (ik : IsB w kA kn kc key) (hkA : ∀ x, kA = some x → v.ownBlock ≠ some x.block) (hk : KeyOk key) (hs : getR (t, gn) l = none) :
    Calls Tryz.prog 17 #[.pointer (some ⟨g, 0, none⟩), .int .u32 (t : Int), .int .u16 (gn : Int), .slice kA kn kc] w fun e w' => ∃ v' u, e = .returned (.int .i64 0) ∧ RkB w' B g v' (vs ++ [((t, gn), u)]) (l ++ [((t, gn), key)]) ∧ Fr w w' (fun k => k = g ∨ v.ownBlock = some k) := by
  obtain ⟨i0, hi0, hz0, hz1, hz2⟩ := info_parts infoKey
  have lk := ik.len
  have hk2 : kn = 16 ∨ kn = 32 := by unfold KeyOk at hk; omega
  have HM := Lib.hid (may_yes kA kn kc w hk2)
  have HA := Lib.hid (rat_any B g t gn v vs l w h ht hg h200 (-1) (.inl ⟨rfl, hs⟩))
  have HR := Lib.hid h
  have IK := Lib.hid ik
  have KA := Lib.hid hkA
  have HK := Lib.hid hk
  have LK := Lib.hid lk
  have HN := Lib.hid hk2
  have H2 := Lib.hid h200
  have NG : Hid (v.ownBlock ≠ some g) := Lib.hid (row_ne h.own h.box (by decide))
  have GL := Lib.hid h.box.lt
  have VL : Hid (∀ k, v.ownBlock = some k → k < w.heap.size) := Lib.hid fun k hk => by
    rcases h.own.2 with ⟨rfl, _⟩ | ⟨g', cap, cur, rfl, _, hh, _⟩
    · cases hk
    · have : g' = k := by injection hk
      subst this
      exact (Array.getElem?_eq_some_iff.1 hh).1
  clear h ht hg h200 ik hkA hk hk2 hs lk
  go_enter Tryz.func17, Tryz.ntmps17
  go_wp2_with fail
  refine HM.out.mono ?_
  rintro e w' ⟨rfl, rfl⟩
  go_wp2_with fail
  refine HA.out.mono ?_
  rintro e w' ⟨rfl, rfl⟩
  go_wp2_with fail
  refine wp_wide5 (fun i k => i = 11 ∧ v.ownBlock = some k) [⟨17, IsR (.pointer (some ⟨g, 0, none⟩)), [], false⟩, ⟨18, IsR (.pointer (some ⟨g, 0, none⟩)), [], false⟩, ⟨19, IsR (.pointer (some ⟨g, 0, none⟩)), [1], false⟩, ⟨20, IsR (.pointer (some ⟨g, 0, none⟩)), [2], false⟩, ⟨21, IsR (v), [3], false⟩, ⟨22, IsR (.int .u32 (t : Int)), [], false⟩, ⟨23, IsR (.int .u16 (gn : Int)), [], false⟩, ⟨24, IsR (.slice kA kn kc), [], false⟩, ⟨25, CpyR w.heap.size kn key, [7], false⟩, ⟨26, (fun z W => ∃ u, z = .agg #[.int .u32 (t : Int), .int .u16 (gn : Int), u] ∧ CpyR w.heap.size kn key u W), [5, 6, 8], false⟩, ⟨27, (fun z W => ∃ G u, z = .slice (some ⟨G, 0, none⟩) 1 1 ∧ CbB W G 176 #[.int .u32 (t : Int), .int .u16 (gn : Int), u] ∧ w.heap.size ≤ G ∧ CpyR w.heap.size kn key u W), [9], false⟩, ⟨28, (fun z W => ∃ u, CpyR w.heap.size kn key u W ∧ W.ownsRow B 176 3 z (l.length + 1) (keyCs vs ++ [.int .u32 (t : Int), .int .u16 (gn : Int), u])), [4, 10], false⟩, ⟨29, IsR (.pointer (some ⟨g, 0, none⟩)), [0], false⟩, ⟨30, IsR (.pointer (some ⟨g, 0, none⟩)), [12], false⟩] (by kernel_rfl) (by kernel_rfl) rfl rfl rfl ⟨?_, ?_, ?_, ?_, ?_, ?_, ?_, ?_, ?_, ?_, ?_, ?_, ?_, ?_, trivial⟩ ?_
  · refine ⟨rfl, IsR.monoF _ _, fun a W hA hb hd => Takes.to5 (takes_plain rfl (yields_value _ ?_ rfl)) _⟩
    have h0 : a.tmps[0]?.getD undef = .pointer (some ⟨g, 0, none⟩) := (eval_get a 0).trans ((hA.eval (by simp)).trans rfl)
    go_simp
  · refine ⟨rfl, IsR.monoF _ _, fun a W hA hb hd => Takes.to5 (takes_plain rfl (yields_value _ ?_ rfl)) _⟩
    have h0 : a.tmps[0]?.getD undef = .pointer (some ⟨g, 0, none⟩) := (eval_get a 0).trans ((hA.eval (by simp)).trans rfl)
    go_simp
  · refine ⟨rfl, IsR.monoF _ _, fun a W hA hb hd => Takes.to5 (takes_plain rfl (yields_value _ ?_ rfl)) _⟩
    have h18 : a.tmps[18]?.getD undef = .pointer (some ⟨g, 0, none⟩) := (eval_get a 18).trans (hd 1 (by simp) _ rfl)
    go_simp
  · refine ⟨rfl, IsR.monoF _ _, fun a W hA hb hd => Takes.to5 (takes_plain rfl (yields_value _ ?_ rfl)) _⟩
    have h19 : a.tmps[19]?.getD undef = .pointer (some ⟨g, 0, none⟩) := (eval_get a 19).trans (hd 2 (by simp) _ rfl)
    go_simp
  · refine ⟨rfl, IsR.monoF _ _, fun a W hA hb hd => Takes.to5 (takes_plain rfl (yields_value _ ?_ rfl)) _⟩
    have h20 : a.tmps[20]?.getD undef = .pointer (some ⟨g, 0, none⟩) := (eval_get a 20).trans (hd 3 (by simp) _ rfl)
    have hc : W.cell? ⟨g, 0, none⟩ = some v := (HR.out.box.fr hb (fun ⟨j, _, _, hj⟩ => NG.out hj)).cell (k := 0) rfl
    obtain ⟨A, cp, hv⟩ := row_shape HR.out.own
    subst hv
    go_simp
  · refine ⟨rfl, IsR.monoF _ _, fun a W hA hb hd => Takes.to5 (takes_plain rfl (yields_value _ ?_ rfl)) _⟩
    have h1 : a.tmps[1]?.getD undef = .int .u32 (t : Int) := (eval_get a 1).trans ((hA.eval (by simp)).trans rfl)
    go_simp
  · refine ⟨rfl, IsR.monoF _ _, fun a W hA hb hd => Takes.to5 (takes_plain rfl (yields_value _ ?_ rfl)) _⟩
    have h2 : a.tmps[2]?.getD undef = .int .u16 (gn : Int) := (eval_get a 2).trans ((hA.eval (by simp)).trans rfl)
    go_simp
  · refine ⟨rfl, IsR.monoF _ _, fun a W hA hb hd => Takes.to5 (takes_plain rfl (yields_value _ ?_ rfl)) _⟩
    have h3 : a.tmps[3]?.getD undef = .slice kA kn kc := (eval_get a 3).trans ((hA.eval (by simp)).trans rfl)
    go_simp
  · refine ⟨rfl, fun z W W1 h1 hf => h1.fr hf (fun k ⟨j, _, _, hj⟩ => VL.out k hj), fun a W hA hb hd => takes5_plain rfl ?_⟩
    have h24 : a.tmps[24]?.getD undef = .slice kA kn kc := (eval_get a 24).trans (hd 7 (by simp) _ rfl)
    refine Yields.to5 (yields_call 81 #[.slice kA kn kc] (by go_simp) ((copy_any kA kn kc key W (IK.out.fr hb (fun x hx ⟨j, _, _, hj⟩ => KA.out x hx hj)) (by have := HN.out; omega)).mono ?_)) _
    rintro e W1 ⟨rfl, hk1, hb1⟩
    exact ⟨_, rfl, ⟨_, rfl, hb.size, (OwB.ofBk hk1 (Nat.le_refl _) LK.out (by omega) (by rw [List.length_append, LK.out, zeros_len]) (by have := HN.out; omega) (by rw [List.take_append_of_le_length (by rw [LK.out]; exact Nat.le_refl _), List.take_of_length_le (by rw [LK.out]; exact Nat.le_refl _)]) IK.out.2).lower hb.size⟩, hb1⟩
  · refine ⟨rfl, fun z W W1 ⟨u, h1, h2⟩ hf => ⟨u, h1, h2.fr hf (fun k ⟨j, _, _, hj⟩ => VL.out k hj)⟩, fun a W hA hb hd => takes5_plain rfl ?_⟩
    have h22 : a.tmps[22]?.getD undef = .int .u32 (t : Int) := (eval_get a 22).trans (hd 5 (by simp) _ rfl)
    have h23 : a.tmps[23]?.getD undef = .int .u16 (gn : Int) := (eval_get a 23).trans (hd 6 (by simp) _ rfl)
    obtain ⟨Gc, hGe, hG1, hG2⟩ := hd 8 (by simp) _ rfl
    have h25 : a.tmps[25]?.getD undef = .slice (some ⟨Gc, 0, none⟩) kn (kn + 3) := (eval_get a 25).trans hGe
    rw [hGe] at hG2
    refine Yields.to5 (yields_value (.agg #[.int .u32 (t : Int), .int .u16 (gn : Int), .slice (some ⟨Gc, 0, none⟩) kn (kn + 3)]) ?_ ⟨_, rfl, Gc, rfl, hG1, hG2⟩) _
    go_simp
  · refine ⟨rfl, fun z W W1 ⟨G1, u, h1, h2, h3, h4⟩ hf => ⟨G1, u, h1, h2.fr hf (fun ⟨j, _, _, hj⟩ => by have := VL.out _ hj; omega), h3, h4.fr hf (fun k ⟨j, _, _, hj⟩ => VL.out k hj)⟩, fun a W hA hb hd => takes5_plain rfl ?_⟩
    obtain ⟨u, hu, Gc, rfl, hG1, hG2⟩ := hd 9 (by simp) _ rfl
    have h26 : a.tmps[26]?.getD undef = .agg #[.int .u32 (t : Int), .int .u16 (gn : Int), .slice (some ⟨Gc, 0, none⟩) kn (kn + 3)] := (eval_get a 26).trans hu
    refine .inl ⟨.slice (some ⟨W.heap.size, 0, none⟩) 1 1, W.alloc (.cells #[.int .u32 (t : Int), .int .u16 (gn : Int), .slice (some ⟨Gc, 0, none⟩) kn (kn + 3)] 176), ?_, ⟨_, _, rfl, CbB.new _ _ _, hb.size, Gc, rfl, hG1, hG2.alloc _⟩, Fr.of ((Below.refl _ _).alloc (Nat.le_refl _) _) _⟩
    go_simp
  · refine ⟨rfl, fun z W W1 ⟨u, h1, h2⟩ hf => ⟨u, h1.fr hf (fun k ⟨j, hj, hj2, _⟩ => absurd hj2 hj), row_fr h2 hf (fun k hk ⟨j, hj, hj2, _⟩ => hj hj2)⟩, fun a W hA hb hd => takes5_plain rfl ?_⟩
    have hs : a.eval (.tmp 21) = v := hd 4 (by simp) _ rfl
    obtain ⟨Gs, u, he, hcb, hGs, hcu⟩ := hd 10 (by simp) _ rfl
    have hx : a.eval (.tmp 27) = .slice (some ⟨Gs, 0, none⟩) 1 1 := he
    have hown := row_fr HR.out.own hb (fun k hk ⟨j, hj, hj2, _⟩ => hj hj2)
    obtain ⟨Gc, rfl, hG1, hG2⟩ := hcu
    obtain ⟨v1, W1, hrun, r1, r2, _⟩ := run_append_own (P := Tryz.prog) W B 38 38 176 i0 _ 3 32 Tryz.underlying38 hi0 hz0 hz1 hz2 rfl (by decide) v l.length (keyCs vs) hown ⟨Gs, 0, none⟩ 1 1 [.int .u32 (t : Int), .int .u16 (gn : Int), .slice (some ⟨Gc, 0, none⟩) kn (kn + 3)] rfl (row_at hcb) (by simp [Value.oneCell']) (by have := H2.out; simp only [maxLen]; omega) (by have := H2.out; omega) (Nat.le_trans HR.out.low hb.size)
    refine .inl ⟨v1, W1, ?_, ⟨_, (show CpyR w.heap.size kn key (.slice (some ⟨Gc, 0, none⟩) kn (kn + 3)) W from ⟨Gc, rfl, hG1, hG2⟩).fr (Fr.grown r2) (fun k hk => VL.out k hk), r1⟩, (Fr.grown r2).imp fun k hk => ⟨rfl, hk⟩⟩
    unfold execOp
    simp only [resolve, invoke, builtin, Sem.run_bind, Sem.run_pure, Result.andThen_ok, List.map_toArray, List.map_cons, List.map_nil, hs, hx, hrun]
  · refine ⟨rfl, IsR.monoF _ _, fun a W hA hb hd => Takes.to5 (takes_plain rfl (yields_value _ ?_ rfl)) _⟩
    have h17 : a.tmps[17]?.getD undef = .pointer (some ⟨g, 0, none⟩) := (eval_get a 17).trans (hd 0 (by simp) _ rfl)
    go_simp
  · refine ⟨rfl, IsR.monoF _ _, fun a W hA hb hd => Takes.to5 (takes_plain rfl (yields_value _ ?_ rfl)) _⟩
    have h29 : a.tmps[29]?.getD undef = .pointer (some ⟨g, 0, none⟩) := (eval_get a 29).trans (hd 12 (by simp) _ rfl)
    go_simp
  intro vs2 w2 hR hb
  obtain ⟨u, hcu, hrow⟩ : (∃ u, CpyR w.heap.size kn key u w2 ∧ w2.ownsRow B 176 3 (vs2 28) (l.length + 1) (keyCs vs ++ [.int .u32 (t : Int), .int .u16 (gn : Int), u])) := hR 11 _ rfl
  have e17 : vs2 17 = .pointer (some ⟨g, 0, none⟩) := hR 0 _ rfl
  have e18 : vs2 18 = .pointer (some ⟨g, 0, none⟩) := hR 1 _ rfl
  have e19 : vs2 19 = .pointer (some ⟨g, 0, none⟩) := hR 2 _ rfl
  have e20 : vs2 20 = .pointer (some ⟨g, 0, none⟩) := hR 3 _ rfl
  have e21 : vs2 21 = v := hR 4 _ rfl
  have e22 : vs2 22 = .int .u32 (t : Int) := hR 5 _ rfl
  have e23 : vs2 23 = .int .u16 (gn : Int) := hR 6 _ rfl
  have e24 : vs2 24 = .slice kA kn kc := hR 7 _ rfl
  have e29 : vs2 29 = .pointer (some ⟨g, 0, none⟩) := hR 12 _ rfl
  have e30 : vs2 30 = .pointer (some ⟨g, 0, none⟩) := hR 13 _ rfl
  simp only [List.map_cons, List.map_nil, List.foldl_cons, List.foldl_nil, List.length_cons, List.length_nil, List.drop_succ_cons, List.drop_zero, Act.put, List.setIfInBounds_toArray, List.set_cons_zero, List.set_cons_succ, e17, e18, e19, e20, e21, e22, e23, e24, e29, e30]
  have FR : Hid (Fr w w2 (fun k => v.ownBlock = some k)) := Lib.hid (hb.imp fun k ⟨j, _, hj⟩ => hj)
  have CU := Lib.hid hcu
  have RW := Lib.hid hrow
  clear hR hb hcu hrow e17 e18 e19 e20 e21 e22 e23 e24 e29 e30
  generalize vs2 25 = q25 at *
  generalize vs2 26 = q26 at *
  generalize vs2 27 = q27 at *
  generalize vs2 28 = q28 at *
  have G2 := Lib.hid (HR.out.box.fr FR.out NG.out)
  have hc : w2.cell? ⟨g, 0, none⟩ = some v := G2.out.cell (k := 0) rfl
  have hf := G2.out.free 0
  obtain ⟨A7, c7, rfl⟩ := row_shape RW.out
  obtain ⟨Av, cv, rfl⟩ := row_shape HR.out.own
  go_wp2_with fail
  go_ret
  have hgc := grown_cell w2 g 0 (.slice A7 (l.length + 1) c7)
  have hfg := Fr.grown hgc
  have nq : ∀ k, (Value.slice A7 (l.length + 1) c7).ownBlock = some k → ¬ (some g = some k) := fun k hk e => by
    injection e with e
    subst e
    exact row_ne RW.out G2.out (by decide) hk
  have hvals : RgV w2 B vs l := HR.out.vals.imp fun z k hz => hz.fr FR.out (row_own_ne HR.out.own hz (by decide))
  obtain ⟨Gc, rfl, hG1, hG2⟩ := CU.out
  have fvals : ∀ z k, OwB w2 B z k → OwB (w2.setCell ⟨g, 0, none⟩ (.slice A7 (l.length + 1) c7)) B z k := fun z k hz => hz.fr hfg (fun q hq e => by
    injection e with e
    subst e
    exact own_ne' (by decide) G2.out hz hq)
  refine ⟨_, .slice (some ⟨Gc, 0, none⟩) kn (kn + 3), rfl, ⟨G2.out.set 0 _, ?_, ?_, ?_, ?_⟩, ?_⟩
  · rw [keyCs_snoc, List.length_append, List.length_singleton]
    exact row_fr RW.out hfg nq
  · exact RgV.snoc (fvals _ _ (hG2.lower HR.out.low)) (hvals.imp fvals)
  · exact Nat.le_trans HR.out.low (Nat.le_trans FR.out.size (by simp))
  · intro p hp
    rcases List.mem_append.1 hp with hp | hp
    · exact HR.out.ne p hp
    · rw [List.mem_singleton] at hp
      subst hp
      exact HK.out
  · exact (FR.out.imp fun k hk => .inr hk).tr (hfg.imp fun k hk => .inl (by injection hk with hk; exact hk.symm))
theorem rkAdd_any (B g t gn : Nat) (v : Value) (vs : List ((Nat × Nat) × Value)) (l : RgL) (kA : Option Addr) (kn kc : Nat) (key : List Nat) (w : World) (h : RkB w B g v vs l) (ht : t < 4294967296) (hg : gn < 65536) (h200 : l.length ≤ 1000) (ik : IsB w kA kn kc key) (hkA : ∀ x, kA = some x → v.ownBlock ≠ some x.block) :
    Calls Tryz.prog 17 #[.pointer (some ⟨g, 0, none⟩), .int .u32 (t : Int), .int .u16 (gn : Int), .slice kA kn kc] w fun e w' => ∃ v' vs', e = .returned (.int .i64 ((addP (t, gn) key l).1 : Int)) ∧ RkB w' B g v' vs' (addP (t, gn) key l).2 ∧ Fr w w' (fun k => k = g ∨ v.ownBlock = some k) := by
  have lk := ik.len
  unfold addP
  by_cases hk : key.length = 16 ∨ key.length = 32
  · rw [if_pos hk]
    cases hs : getR (t, gn) l with
    | some k =>
      rw [Option.isSome_some, if_pos rfl]
      refine (rkAdd_twice B g t gn v vs l kA kn kc w h ht hg h200 (by omega) hs).mono ?_
      rintro e w' ⟨rfl, rfl⟩
      exact ⟨v, vs, rfl, h, Fr.of (Below.refl _ _) _⟩
    | none =>
      rw [Option.isSome_none, if_neg Bool.false_ne_true]
      refine (rkAdd_yes B g t gn v vs l kA kn kc key w h ht hg h200 ik hkA hk hs).mono ?_
      rintro e w' ⟨v', u, rfl, h1, h2⟩
      exact ⟨v', _, rfl, h1, h2⟩
  · rw [if_neg hk]
    refine (rkAdd_arg g _ _ kA kn kc w (by omega)).mono ?_
    rintro e w' ⟨rfl, rfl⟩
    exact ⟨v, vs, rfl, h, Fr.of (Below.refl _ _) _⟩
end Go.Proofs.YtakgebbeknfplaaGreat
