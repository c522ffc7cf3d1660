/-
  RINGS: the map of keys of a pair of numbers, and what of it is known.
  RINGS: walks of NewRing, Add, Key.
  RINGS: the walk of Add.
-/
import Derived.Test.YtakgebbeknfplaaGreatMpA
import Derived.Test.YtakgebbeknfplaaGreatCtC
import Derived.Test.YtakgebbeknfplaaGreatSeB
namespace Go.Proofs.YtakgebbeknfplaaGreat
open Go.RowKit
set_option linter.unusedVariables false

def whV (p : Nat × Nat) : Value := .agg #[.int .u32 (p.1 : Int), .int .u16 (p.2 : Int)]
def whOk (p : Nat × Nat) : Prop := p.1 < 4294967296 ∧ p.2 < 65536
theorem wh_row : (173 : TypeId) < Tryz.prog.types.size := of_decide_eq_true (by kernel_rfl)
theorem wh_law : WideMaps.KeyLaw Tryz.prog 173 := deep_law_laid Tryz.laidOut (m := 2) (by omega) wh_row (by kernel_rfl) (by rw [Tryz.underlying173])
theorem wh_wf {p : Nat × Nat} (h : whOk p) : (Lit.int .u32 (p.1 : Int)).wf = true ∧ (Lit.int .u16 (p.2 : Int)).wf = true := by
  obtain ⟨h1, h2⟩ := h
  have e1 : IntKind.u32.min = 0 := rfl
  have e2 : IntKind.u32.max = 4294967295 := rfl
  have e3 : IntKind.u16.min = 0 := rfl
  have e4 : IntKind.u16.max = 65535 := rfl
  simp only [Lit.wf, Bool.and_eq_true, decide_eq_true_eq]
  omega
theorem wh_lits (n : Nat) {p : Nat × Nat} (h : whOk p) : Tryz.prog.keyLits (n + 1 + 1) 173 [.int .u32 (p.1 : Int), .int .u16 (p.2 : Int)] = some [.int .u32 (p.1 : Int), .int .u16 (p.2 : Int)] := by
  obtain ⟨h1, h2⟩ := wh_wf h
  have c1 : Tryz.prog.cellsOf 41 = 1 := by kernel_rfl
  have c2 : Tryz.prog.cellsOf 42 = 1 := by kernel_rfl
  have c3 : Tryz.prog.cellsOf 173 = 2 := by kernel_rfl
  simp [Program.keyLits, Tryz.underlying173, Tryz.underlying41, Tryz.underlying42, c1, c2, c3, h1, h2]
theorem wh_key {p : Nat × Nat} (h : whOk p) : ∃ l, keyOf Tryz.prog 173 (whV p) = some l := by
  have hex : ∀ m : Nat, 173 < m → ∃ n, m = n + 1 := fun m hm => ⟨m - 1, by omega⟩
  obtain ⟨n, hn⟩ := hex _ wh_row
  have hk : Tryz.prog.keyType 173 = true := by kernel_rfl
  have hf : (whV p).formed Tryz.prog 173 = true := by
    have c3 : Tryz.prog.cellsOf 173 = 2 := by kernel_rfl
    simp [Value.formed, whV, Tryz.underlying173, c3]
  have hl := wh_lits n h
  unfold keyOf
  rw [Tryz.underlying173]
  simp only [hk, hf, Bool.and_self, if_true]
  rw [hn, show (whV p).cells.toList = [.int .u32 (p.1 : Int), .int .u16 (p.2 : Int)] from rfl, hl]
  exact ⟨_, rfl⟩
theorem wh_K : KeyK Tryz.prog 173 whV whOk where
  keyed := Maps.Keyed.of_law wh_law
  of := wh_key
  inj := fun {x y} h => by
    have h1 := congrArg (fun v : Value => match v with | .agg cs => cs | _ => #[]) h
    simp only [whV] at h1
    simp at h1
    exact Prod.ext (by omega) (by omega)
end Go.Proofs.YtakgebbeknfplaaGreat

namespace Go.Proofs.YtakgebbeknfplaaGreat
open Go.RowKit
set_option linter.unusedVariables false

/-- a ring's keys, in the order in which they came -/
abbrev RgL := List ((Nat × Nat) × List Nat)
def getR (x : Nat × Nat) (l : RgL) : Option (List Nat) := (l.find? fun p => decide (p.1 = x)).map (·.2)
/-- values that are bytes of the call's own -/
def RgV (w : World) (B : Nat) : List ((Nat × Nat) × Value) → RgL → Prop
  | [], [] => True
  | p :: ps, q :: qs => (p.1 = q.1 ∧ OwB w B p.2 q.2) ∧ RgV w B ps qs
  | _, _ => False
theorem RgV.imp {w w' : World} {B : Nat} : ∀ {vs : List ((Nat × Nat) × Value)} {l : RgL}, RgV w B vs l → (∀ v k, OwB w B v k → OwB w' B v k) → RgV w' B vs l
  | [], [], _, _ => trivial
  | p :: ps, q :: qs, h, hi => ⟨⟨h.1.1, hi _ _ h.1.2⟩, RgV.imp h.2 hi⟩
  | [], _ :: _, h, _ => h.elim
  | _ :: _, [], h, _ => h.elim
theorem RgV.look {w : World} {B : Nat} (x : Nat × Nat) : ∀ {vs : List ((Nat × Nat) × Value)} {l : RgL}, RgV w B vs l →
    (lookL x vs = none ∧ getR x l = none) ∨ ∃ v k, lookL x vs = some v ∧ getR x l = some k ∧ OwB w B v k
  | [], [], _ => .inl ⟨rfl, rfl⟩
  | p :: ps, q :: qs, h => by
    have ih := RgV.look x h.2
    obtain ⟨⟨h1, h2⟩, h3⟩ := h
    unfold lookL getR at ih ⊢
    by_cases hx : p.1 = x
    · rw [List.find?_cons_of_pos (by simpa using hx), List.find?_cons_of_pos (by rw [← h1]; simpa using hx)]
      exact .inr ⟨_, _, rfl, rfl, h2⟩
    · rw [List.find?_cons_of_neg (by simpa using hx), List.find?_cons_of_neg (by rw [← h1]; simpa using hx)]
      exact ih
  | [], _ :: _, h => h.elim
  | _ :: _, [], h => h.elim
theorem RgV.snoc {w : World} {B : Nat} {x : Nat × Nat} {v : Value} {k : List Nat} (hv : OwB w B v k) : ∀ {vs : List ((Nat × Nat) × Value)} {l : RgL}, RgV w B vs l → RgV w B (vs ++ [(x, v)]) (l ++ [(x, k)])
  | [], [], _ => ⟨⟨rfl, hv⟩, trivial⟩
  | p :: ps, q :: qs, h => ⟨h.1, RgV.snoc hv h.2⟩
  | [], _ :: _, h => h.elim
  | _ :: _, [], h => h.elim
theorem RgV.drop {w : World} {B : Nat} (x : Nat × Nat) : ∀ {vs : List ((Nat × Nat) × Value)} {l : RgL}, RgV w B vs l → RgV w B (dropL x vs) (l.filter fun p => !decide (p.1 = x))
  | [], [], _ => trivial
  | p :: ps, q :: qs, h => by
    have ih := RgV.drop x h.2
    obtain ⟨⟨h1, h2⟩, h3⟩ := h
    unfold dropL at ih ⊢
    by_cases hx : p.1 = x
    · rw [List.filter_cons_of_neg (by simpa using hx), List.filter_cons_of_neg (by rw [← h1]; simpa using hx)]
      exact ih
    · rw [List.filter_cons_of_pos (by simpa using hx), List.filter_cons_of_pos (by rw [← h1]; simpa using hx)]
      exact ⟨⟨h1, h2⟩, ih⟩
  | [], _ :: _, h => h.elim
  | _ :: _, [], h => h.elim
theorem getR_mem {x : Nat × Nat} {l : RgL} {k : List Nat} (h : getR x l = some k) : (x, k) ∈ l := by
  unfold getR at h
  obtain ⟨p, hp, rfl⟩ := Option.map_eq_some_iff.1 h
  have h1 := List.mem_of_find?_eq_some hp
  have h2 := List.find?_some hp
  simp only [decide_eq_true_eq] at h2
  subst h2
  exact h1
/-- A RING: its struct's block, its map's block, its keys. -/
structure RgB (w : World) (B g m : Nat) (l : RgL) : Prop where
  box : w.heap[g]? = some (.cells #[.map (some m)] 169 (0, 0))
  low : B ≤ m
  map : ∃ vs, MapB whV whOk w m vs ∧ RgV w B vs l
  ne : ∀ p ∈ l, KeyOk p.2
section
variable {w w' : World} {B g m : Nat} {l : RgL}
theorem RgB.lt (h : RgB w B g m l) : g < w.heap.size := lt_of_block h.box
theorem RgB.mlt (h : RgB w B g m l) : m < w.heap.size := by
  obtain ⟨vs, h1, _⟩ := h.map
  exact h1.lt
theorem RgV.ab {vs : List ((Nat × Nat) × Value)} (h : RgV w B vs l) (hb : Below w.heap.size w w') : RgV w' B vs l := h.imp fun _ _ ho => ho.ab hb
theorem RgB.ab (h : RgB w B g m l) (hb : Below w.heap.size w w') : RgB w' B g m l := by
  obtain ⟨vs, h1, h2⟩ := h.map
  exact ⟨(hb.block g h.lt).trans h.box, h.low, ⟨vs, h1.ab hb, h2.ab hb⟩, h.ne⟩
theorem RgB.cell (h : RgB w B g m l) : w.cell? ⟨g, 0, none⟩ = some (.map (some m)) := by rw [cell_of_row w g 0 _ _ (0, 0) h.box]; rfl
end
set_option maxRecDepth 100000 in
theorem newRing_any (w : World) : Calls Tryz.prog 15 #[] w fun e w' => ∃ g m, e = .returned (.pointer (some ⟨g, 0, none⟩)) ∧ w.heap.size ≤ g ∧ RgB w' w.heap.size g m [] ∧ Below w.heap.size w w' := by
  have hmm : ∀ W : World, (Instr.makeMap 167 none).run Tryz.prog W = .ok (.map (some W.heap.size)) (W.alloc (.map #[] 0)) := fun _ => rfl
  go_enter Tryz.func15, Tryz.ntmps15
  go_wp2_with fail
  go_ret
  have h1 : Below w.heap.size w (w.alloc (.map #[] 0)) := (Below.refl _ _).alloc (Nat.le_refl _) _
  refine ⟨w.heap.size + 1, w.heap.size, rfl, by omega, ⟨?_, Nat.le_refl _, ⟨[], ?_, trivial⟩, fun p hp => by cases hp⟩, h1.alloc (by simp) _⟩
  · have := heap_alloc_new (w.alloc (.map #[] 0)) (.cells #[.map (some w.heap.size)] 169)
    simpa using this
  · exact (MapB.new whV whOk w).alloc _
/-- what a ring hands out -/
def keyP (x : Nat × Nat) (l : RgL) : List Nat × Nat := match getR x l with | some k => (k, 0) | none => ([], 7)
theorem zero_bytes (w : World) : (zeroValue 22).run Tryz.prog w = .ok (.slice none 0 0) w := by kernel_rfl
theorem empty_own (w : World) : OwB (w.alloc (.cells #[] 5)) w.heap.size (.slice (some ⟨w.heap.size, 0, none⟩) 0 0) [] :=
  OwB.ofBk (l' := []) (show Bk (w.alloc (.cells (bts []) 5)) w.heap.size 5 [] from Bk.newAt _ [] rfl) (Nat.le_refl _) rfl (Nat.le_refl _) rfl (by decide) rfl (fun x hx => by cases hx)
set_option maxRecDepth 100000 in
set_option maxHeartbeats 1000000 in
theorem ringKey_any (B g m t gn : Nat) (l : RgL) (w : World) (h : RgB w B g m l) (ht : t < 4294967296) (hg : gn < 65536) :
    Calls Tryz.prog 118 #[.pointer (some ⟨g, 0, none⟩), .int .u32 (t : Int), .int .u16 (gn : Int)] w (OutB w (keyP (t, gn) l).1 (keyP (t, gn) l).2) := by
  obtain ⟨i0, hi0, hz0, hz1, hz2⟩ := info_parts infoU8
  have hc := h.cell
  obtain ⟨vs, h1, h2⟩ := h.map
  have hok : whOk (t, gn) := ⟨ht, hg⟩
  rcases h2.look (t, gn) with ⟨e1, e2⟩ | ⟨v, k, e1, e2, e3⟩
  · have hlk : (Instr.lookup 167 (.map (some m)) (.agg #[.int .u32 (t : Int), .int .u16 (gn : Int)]) true).run Tryz.prog w = .ok (.tuple #[.slice none 0 0, .bool false]) w := h1.look_none wh_K Tryz.underlying167 hok e1 (zero_bytes w) true
    unfold keyP
    rw [e2]
    clear h h1 h2 e1 e2 hok ht hg
    go_enter Tryz.func118, Tryz.ntmps118
    go_wp2_with fail
    go_ret2
    exact OutB.refused 7 (Below.refl _ _)
  · have hlk : (Instr.lookup 167 (.map (some m)) (.agg #[.int .u32 (t : Int), .int .u16 (gn : Int)]) true).run Tryz.prog w = .ok (.tuple #[v, .bool true]) w := h1.look_some wh_K Tryz.underlying167 hok e1 true
    have hk := h.ne _ (getR_mem e2)
    obtain ⟨A, cap, rfl, hcap, hcap2⟩ := e3.shape
    have hI := e3.isB rfl
    have E0 := Lib.hid (empty_own w)
    have I0 := Lib.hid (hI.alloc (.cells #[] 5))
    have B0 : Hid (Below w.heap.size w (w.alloc (.cells #[] 5))) := Lib.hid ((Below.refl _ _).alloc (Nat.le_refl _) _)
    have HK : Hid (k.length ≤ 32) := Lib.hid (by unfold KeyOk at hk; simp only at hk; omega)
    unfold keyP
    rw [e2]
    clear h h1 h2 e1 e2 hok ht hg hk hI e3 hcap hcap2
    go_enter Tryz.func118, Tryz.ntmps118
    go_wp2_with (first
      | (refine wpList_appB _ rfl (.tmp 25) (.tmp 26) rfl Tryz.underlying22 hi0 hz0 hz1 hz2 rfl E0.out rfl I0.out rfl (by have := HK.out; simp; omega) B0.out.size ?_
         intro v1 w1 hv1 hb1 hg1 hat1
         have V1 : Hid (OwB w1 w.heap.size v1 k) := Lib.hid hv1
         have B1 := Lib.hid (B0.out.trans hb1)
         clear hv1 hb1 hg1 hat1))
    go_ret2
    exact ⟨_, rfl, V1.out, B1.out⟩
end Go.Proofs.YtakgebbeknfplaaGreat

namespace Go.Proofs.YtakgebbeknfplaaGreat
open Go.RowKit
set_option linter.unusedVariables false

/-- a slice without room -/
def EmR (v : Value) (_ : World) : Prop := ∃ X : Addr, v = .slice (some X) 0 0
theorem EmR.mono : Mono EmR := fun _ _ _ h _ => h
theorem isB_empty (w : World) (X : Addr) : IsB w (some X) 0 0 [] := ⟨⟨rfl, Nat.le_refl _, Nat.zero_le _, by simp, .inr ⟨X, rfl, fun h => absurd h (Nat.lt_irrefl 0), fun i hi => absurd hi (Nat.not_lt_zero i)⟩⟩, fun x hx => by cases hx⟩
theorem yields_empty {o : Oper} {a : Act} {W : World} (ho : o.op = .buildSlice 22 0 #[]) : Yields Tryz.prog o a W false EmR := by
  refine .inl ⟨.slice (some ⟨W.heap.size, 0, none⟩) 0 0, W.alloc (.cells #[] 5), ?_, ⟨_, rfl⟩, (Below.refl _ _).alloc (Nat.le_refl _) _, fresh_no _ _ _⟩
  unfold execOp
  simp only [ho]
  go_simp
theorem cell_isB0 {w : World} {b : Addr} {n c : Nat} {l : List Nat} (h : IsB w (some b) n c l) : ∀ j u, (bvals l)[j]? = some u → w.cell? (b.add j) = some u := fun j u hj => by
  have l1 := h.len
  have hj' : j < n := by
    rcases Nat.lt_or_ge j n with h | h
    · exact h
    · rw [List.getElem?_eq_none (by simp [bvals]; omega)] at hj; cases hj
  obtain ⟨y, e, _, hy⟩ := h.cell (by omega)
  injection e with e
  subst e
  rw [hy j hj', ← hj]
  simp [bvals, at', List.getElem?_eq_getElem (show j < l.length by omega)]
theorem yields_appG {o : Oper} {a : Act} {W : World} {R : Value → World → Prop} (s x : Operand) (ho : o.op = .call { callee := .builtin .append, args := #[s, x], argTypes := #[22, 22] })
    {b : Addr} {n c : Nat} {la : List Nat} (ha : IsB W (some b) n c la) (hs : a.eval s = .slice (some b) n c) {X : Addr} {m d : Nat} {lx : List Nat} (hx : IsB W (some X) m d lx) (he : a.eval x = .slice (some X) m d)
    (hfull : c < n + m) (hm : n + m ≤ 140737488355328) (hR : ∀ v' W', OwB W' W.heap.size v' (la ++ lx) → Below W.heap.size W W' → R v' W') : Yields Tryz.prog o a W false R := by
  obtain ⟨i0, hi0, hz0, hz1, hz2⟩ := info_parts infoU8
  have l1 := ha.len
  have l2 := hx.len
  obtain ⟨v', w', hrun, r1, r2⟩ := run_append_arg_grows (P := Tryz.prog) W 22 o.type 5 i0 _ 1 1 Tryz.underlying22 hi0 hz0 hz1 hz2 rfl (by decide) b n c (bvals la) (by simp [bvals, l1]) (cell_isB0 ha) X m d (bvals lx) (by simp [bvals, l2]) (cell_isB0 hx) hfull (by simp only [maxLen]; omega) (by omega)
  have hb : Below W.heap.size W w' := ⟨r2.os, r2.tape, r2.output, r2.size, fun k hk => r2.block k hk (by simp)⟩
  have hw : OwB w' W.heap.size v' (la ++ lx) := by
    refine ⟨?_, byt_app ha.2 hx.2⟩
    rw [List.length_append, l1, l2]
    have e : bvals la ++ bvals lx = bvals (la ++ lx) := by simp [bvals]
    rw [← e]
    exact r1
  refine .inl ⟨v', w', ?_, hR _ _ hw hb, hb, fresh_no _ _ _⟩
  unfold execOp
  simp only [ho, resolve, invoke, builtin, Sem.run_bind, Sem.run_pure, Result.andThen_ok, List.map_toArray, List.map_cons, List.map_nil, hs, he, hrun]
/-- what comes of one more key -/
def addP (x : Nat × Nat) (k : List Nat) (l : RgL) : Nat × RgL := if k.length = 16 ∨ k.length = 32 then (if (getR x l).isSome then (8, l) else (0, l ++ [(x, k)])) else (2, l)
theorem RgB.grown {w w' : World} {B g m r : Nat} {l : RgL} (h : RgB w B g m l) (hg : w.grownBy w' (some r)) (hgr : g ≠ r) (hmr : m ≠ r) (hv : ∀ vs, RgV w B vs l → RgV w' B vs l) : RgB w' B g m l := by
  obtain ⟨vs, h1, h2⟩ := h.map
  exact ⟨(hg.block g h.lt (by simp [hgr])).trans h.box, h.low, ⟨vs, h1.grown hg (by simp [Ne.symm hmr]), hv vs h2⟩, h.ne⟩
theorem OwB.grown {w w' : World} {B : Nat} {v : Value} {l : List Nat} {r : Nat} (h : OwB w B v l) (hg : w.grownBy w' (some r)) (hne : v.ownBlock ≠ some r) : OwB w' B v l := h.kept hg (.inr hne)
/-- a block that is a map holds no bytes -/
theorem OwB.notMap {w : World} {B m : Nat} {v : Value} {l : List Nat} {es : Array MapEntry} {c : Nat} (h : OwB w B v l) (hm : w.heap[m]? = some (.map es c)) : v.ownBlock ≠ some m := by
  intro e
  rcases h.own.2 with ⟨rfl, _⟩ | ⟨g, cap, cur, rfl, _, hh, _⟩
  · cases e
  · have : g = m := by injection e
    subst this
    rw [hm] at hh
    cases hh
theorem notMap {w : World} {kv : Nat × Nat → Value} {ok : Nat × Nat → Prop} {B m : Nat} {v : Value} {l : List Nat} {vs : List ((Nat × Nat) × Value)} (h : OwB w B v l) (hm : MapB kv ok w m vs) : v.ownBlock ≠ some m := by
  obtain ⟨es, c, h1, _⟩ := hm
  exact h.notMap h1
set_option maxRecDepth 100000 in
set_option maxHeartbeats 1000000 in
theorem ringAdd_no (B g m t gn kn kc err : Nat) (kA : Option Addr) (l : RgL) (w : World) (h : RgB w B g m l) (ht : t < 4294967296) (hg : gn < 65536)
    (he : (err = 2 ∧ ¬ (kn = 16 ∨ kn = 32)) ∨ (err = 8 ∧ (kn = 16 ∨ kn = 32) ∧ (getR (t, gn) l).isSome = true)) :
    Calls Tryz.prog 16 #[.pointer (some ⟨g, 0, none⟩), .int .u32 (t : Int), .int .u16 (gn : Int), .slice kA kn kc] w fun e w' => e = .returned (.int .i64 (err : Int)) ∧ Below w.heap.size w w' := by
  have hc := h.cell
  obtain ⟨vs, h1, h2⟩ := h.map
  have hok : whOk (t, gn) := ⟨ht, hg⟩
  have HM := Lib.hid (smay_any kA kn kc 1 w)
  rcases he with ⟨rfl, hk⟩ | ⟨rfl, hk, hs⟩
  · have eM : Hid (decide ((kn = 16 ∨ kn = 32) ∧ 1 ≤ 1 ∧ 1 ≤ 4) = false) := Lib.hid (decide_eq_false (fun q => hk q.1))
    clear h h1 h2 hok ht hg hk
    go_enter Tryz.func16, Tryz.ntmps16
    go_wp2_with fail
    refine HM.out.mono ?_
    rw [eM.out]
    rintro e w' ⟨rfl, rfl⟩
    go_wp2_with fail
    go_ret
    exact ⟨rfl, Below.refl _ _⟩
  · have eM : Hid (decide ((kn = 16 ∨ kn = 32) ∧ 1 ≤ 1 ∧ 1 ≤ 4) = true) := Lib.hid (decide_eq_true ⟨hk, by decide, by decide⟩)
    rcases h2.look (t, gn) with ⟨e1, e2⟩ | ⟨v, k, e1, e2, e3⟩
    · rw [e2] at hs; cases hs
    · have hlk : (Instr.lookup 167 (.map (some m)) (.agg #[.int .u32 (t : Int), .int .u16 (gn : Int)]) true).run Tryz.prog w = .ok (.tuple #[v, .bool true]) w := h1.look_some wh_K Tryz.underlying167 hok e1 true
      clear h h1 h2 hok ht hg hk hs e1 e2 e3
      go_enter Tryz.func16, Tryz.ntmps16
      go_wp2_with fail
      refine HM.out.mono ?_
      rw [eM.out]
      rintro e w' ⟨rfl, rfl⟩
      go_wp2_with fail
      go_ret
      exact ⟨rfl, Below.refl _ _⟩
set_option maxRecDepth 100000 in
set_option maxHeartbeats 2000000 in
theorem ringAdd_yes (B g m t gn kn kc : Nat) (kA : Option Addr) (key : List Nat) (l : RgL) (w : World) (h : RgB w B g m l) (ht : t < 4294967296) (hg : gn < 65536) (ik : IsB w kA kn kc key) (hk : KeyOk key) (hs : getR (t, gn) l = none) :
    Calls Tryz.prog 16 #[.pointer (some ⟨g, 0, none⟩), .int .u32 (t : Int), .int .u16 (gn : Int), .slice kA kn kc] w fun e w' => e = .returned (.int .i64 0) ∧ RgB w' B g m (l ++ [((t, gn), key)]) ∧ w.grownBy w' (some m) := by
  have lk := ik.len
  have hk2 := hk
  unfold KeyOk at hk2
  obtain ⟨X, rfl, _, _⟩ := ik.cell (by omega)
  have hc := h.cell
  obtain ⟨vs, h1, h2⟩ := h.map
  have hok : whOk (t, gn) := ⟨ht, hg⟩
  have HM := Lib.hid (smay_any (some X) kn kc 1 w)
  have eM : Hid (decide ((kn = 16 ∨ kn = 32) ∧ 1 ≤ 1 ∧ 1 ≤ 4) = true) := Lib.hid (decide_eq_true ⟨by omega, by decide, by decide⟩)
  have e1 : lookL (t, gn) vs = none := by
    rcases h2.look (t, gn) with ⟨e1, e2⟩ | ⟨v, k, e1, e2, e3⟩
    · exact e1
    · rw [hs] at e2; cases e2
  have hlk : (Instr.lookup 167 (.map (some m)) (.agg #[.int .u32 (t : Int), .int .u16 (gn : Int)]) true).run Tryz.prog w = .ok (.tuple #[.slice none 0 0, .bool false]) w := h1.look_none wh_K Tryz.underlying167 hok e1 (zero_bytes w) true
  have HR := Lib.hid h
  have H1 := Lib.hid h1
  have H2 := Lib.hid h2
  have E1 := Lib.hid e1
  have HK := Lib.hid hk
  have IK := Lib.hid ik
  have LK := Lib.hid lk
  have HN : Hid (kn ≤ 32 ∧ 0 < kn) := Lib.hid (by omega)
  have HO := Lib.hid hok
  clear h h1 h2 hok ht hg hk hk2 hs e1 ik lk
  go_enter Tryz.func16, Tryz.ntmps16
  go_wp2_with fail
  refine HM.out.mono ?_
  rw [eM.out]
  rintro e w' ⟨rfl, rfl⟩
  go_wp2_with fail
  refine wp_wide3 [⟨28, IsR (.pointer (some ⟨g, 0, none⟩)), [], false⟩, ⟨29, IsR (.pointer (some ⟨g, 0, none⟩)), [0], false⟩, ⟨30, IsR (.pointer (some ⟨g, 0, none⟩)), [1], false⟩, ⟨31, IsR (.map (some m)), [2], false⟩, ⟨32, IsR (.int .u32 (t : Int)), [], false⟩, ⟨33, IsR (.int .u16 (gn : Int)), [], false⟩, ⟨34, IsR (.agg #[.int .u32 (t : Int), .int .u16 (gn : Int)]), [4, 5], false⟩, ⟨35, EmR, [], false⟩, ⟨36, IsR (.slice (some X) kn kc), [], false⟩, ⟨37, OwR w.heap.size key, [7, 8], false⟩] (by kernel_rfl) (by kernel_rfl) rfl rfl rfl ⟨?_, ?_, ?_, ?_, ?_, ?_, ?_, ?_, ?_, ?_, trivial⟩ ?_
  · refine ⟨rfl, IsR.mono _, fun a W hA hb hd => takes_plain rfl (yields_value _ ?_ rfl)⟩
    have h0 : a.tmps[0]?.getD undef = .pointer (some ⟨g, 0, none⟩) := (eval_get a 0).trans ((hA.eval (by simp)).trans rfl)
    go_simp
  · refine ⟨rfl, IsR.mono _, fun a W hA hb hd => takes_plain rfl (yields_value _ ?_ rfl)⟩
    have h28 : a.tmps[28]?.getD undef = .pointer (some ⟨g, 0, none⟩) := (eval_get a 28).trans (hd 0 (by simp) _ rfl)
    go_simp
  · refine ⟨rfl, IsR.mono _, fun a W hA hb hd => takes_plain rfl (yields_value _ ?_ rfl)⟩
    have h29 : a.tmps[29]?.getD undef = .pointer (some ⟨g, 0, none⟩) := (eval_get a 29).trans (hd 1 (by simp) _ rfl)
    go_simp
  · refine ⟨rfl, IsR.mono _, fun a W hA hb hd => takes_plain rfl (yields_value _ ?_ rfl)⟩
    have h30 : a.tmps[30]?.getD undef = .pointer (some ⟨g, 0, none⟩) := (eval_get a 30).trans (hd 2 (by simp) _ rfl)
    have hcc := (HR.out.ab hb).cell
    go_simp
  · refine ⟨rfl, IsR.mono _, fun a W hA hb hd => takes_plain rfl (yields_value _ ?_ rfl)⟩
    have h1 : a.tmps[1]?.getD undef = .int .u32 (t : Int) := (eval_get a 1).trans ((hA.eval (by simp)).trans rfl)
    go_simp
  · refine ⟨rfl, IsR.mono _, fun a W hA hb hd => takes_plain rfl (yields_value _ ?_ rfl)⟩
    have h2 : a.tmps[2]?.getD undef = .int .u16 (gn : Int) := (eval_get a 2).trans ((hA.eval (by simp)).trans rfl)
    go_simp
  · refine ⟨rfl, IsR.mono _, fun a W hA hb hd => takes_plain rfl (yields_value _ ?_ rfl)⟩
    have h32 : a.tmps[32]?.getD undef = .int .u32 (t : Int) := (eval_get a 32).trans (hd 4 (by simp) _ rfl)
    have h33 : a.tmps[33]?.getD undef = .int .u16 (gn : Int) := (eval_get a 33).trans (hd 5 (by simp) _ rfl)
    go_simp
  · refine ⟨rfl, EmR.mono, fun a W hA hb hd => takes_plain rfl ?_⟩
    exact yields_empty rfl
  · refine ⟨rfl, IsR.mono _, fun a W hA hb hd => takes_plain rfl (yields_value _ ?_ rfl)⟩
    have h3 : a.tmps[3]?.getD undef = .slice (some X) kn kc := (eval_get a 3).trans ((hA.eval (by simp)).trans rfl)
    go_simp
  · refine ⟨rfl, OwR.mono _ _, fun a W hA hb hd => takes_plain rfl ?_⟩
    obtain ⟨Y, he⟩ := hd 7 (by simp) _ rfl
    have hs : a.eval (.tmp 35) = .slice (some Y) 0 0 := he
    have hx : a.eval (.tmp 36) = .slice (some X) kn kc := hd 8 (by simp) _ rfl
    exact yields_appG (.tmp 35) (.tmp 36) rfl (isB_empty W Y) hs (IK.out.ab hb) hx (by have := HN.out.2; omega) (by have := HN.out.1; omega) fun v1 W1 h1 h2 => by
      rw [List.nil_append] at h1
      exact OwB.lower h1 hb.size
  intro vs9 w9 hR hF hb
  have K9 : Hid (OwB w9 w.heap.size (vs9 37) key) := Lib.hid (hR 9 _ rfl)
  have e28 : vs9 28 = .pointer (some ⟨g, 0, none⟩) := hR 0 _ rfl
  have e29 : vs9 29 = .pointer (some ⟨g, 0, none⟩) := hR 1 _ rfl
  have e30 : vs9 30 = .pointer (some ⟨g, 0, none⟩) := hR 2 _ rfl
  have e31 : vs9 31 = .map (some m) := hR 3 _ rfl
  have e32 : vs9 32 = .int .u32 (t : Int) := hR 4 _ rfl
  have e33 : vs9 33 = .int .u16 (gn : Int) := hR 5 _ rfl
  have e34 : vs9 34 = .agg #[.int .u32 (t : Int), .int .u16 (gn : Int)] := hR 6 _ rfl
  have e36 : vs9 36 = .slice (some X) kn kc := hR 8 _ rfl
  simp only [List.map_cons, List.map_nil, List.foldl_cons, List.foldl_nil, List.length_cons, List.length_nil, List.drop_succ_cons, List.drop_zero, Act.put, List.setIfInBounds_toArray, List.set_cons_zero, List.set_cons_succ, e28, e29, e30, e31, e32, e33, e34, e36]
  have B9 := Lib.hid hb
  clear hR hF hb e28 e29 e30 e31 e32 e33 e34 e36
  generalize vs9 35 = q35 at *
  generalize vs9 37 = q37 at *
  go_wp2_with (refine wpList_mapPut rfl (.tmp 31) (.tmp 34) (.tmp 37) rfl wh_K Tryz.underlying167 rfl (H1.out.ab B9.out) (t, gn) HO.out rfl q37 rfl ?_
               intro w10 h10 hg10 hz10 hb10
               have M10 := Lib.hid h10
               have G10 := Lib.hid hg10
               clear h10 hg10 hz10 hb10)
  go_ret
  have hB : B ≤ w.heap.size := Nat.le_of_lt (Nat.lt_of_le_of_lt HR.out.low HR.out.mlt)
  have R9 := HR.out.ab B9.out
  have hne : g ≠ m := fun e => by
    subst e
    obtain ⟨es, c, q, _⟩ := H1.out
    rw [HR.out.box] at q
    cases q
  have hput : putL (t, gn) q37 vs = vs ++ [((t, gn), q37)] := by simp [putL, E1.out]
  have M9 := H1.out.ab B9.out
  refine ⟨rfl, ⟨(G10.out.block g R9.lt (by simp [hne])).trans R9.box, HR.out.low, ⟨_, M10.out, ?_⟩, ?_⟩, ?_⟩
  · rw [hput]
    have hvs : RgV w10 B vs l := (H2.out.ab B9.out).imp fun v k hv => hv.grown G10.out (notMap hv M9)
    exact RgV.snoc ((K9.out.lower hB).grown G10.out (notMap K9.out M9)) hvs
  · intro p hp
    rcases List.mem_append.1 hp with hp | hp
    · exact HR.out.ne p hp
    · rw [List.mem_singleton] at hp
      subst hp
      exact HK.out
  · have hb := B9.out
    exact ⟨G10.out.os.trans hb.os, G10.out.tape.trans hb.tape, G10.out.output.trans hb.output, Nat.le_trans hb.size G10.out.size, fun i hi hne => (G10.out.block i (Nat.lt_of_lt_of_le hi hb.size) hne).trans (hb.block i hi)⟩
theorem ringAdd_any (B g m t gn kn kc : Nat) (kA : Option Addr) (key : List Nat) (l : RgL) (w : World) (h : RgB w B g m l) (ht : t < 4294967296) (hg : gn < 65536) (ik : IsB w kA kn kc key) :
    Calls Tryz.prog 16 #[.pointer (some ⟨g, 0, none⟩), .int .u32 (t : Int), .int .u16 (gn : Int), .slice kA kn kc] w fun e w' => e = .returned (.int .i64 ((addP (t, gn) key l).1 : Int)) ∧ RgB w' B g m (addP (t, gn) key l).2 ∧ w.grownBy w' (some m) := by
  have lk := ik.len
  have hgr : ∀ w' : World, Below w.heap.size w w' → w.grownBy w' (some m) := fun w' hb => ⟨hb.os, hb.tape, hb.output, hb.size, fun i hi _ => hb.block i hi⟩
  unfold addP
  by_cases hk : key.length = 16 ∨ key.length = 32
  · rw [if_pos hk]
    cases hs : getR (t, gn) l with
    | some k =>
      rw [Option.isSome_some, if_pos rfl]
      exact (ringAdd_no B g m t gn kn kc 8 kA l w h ht hg (.inr ⟨rfl, by omega, by rw [hs]; rfl⟩)).mono fun e w' ⟨h1, h2⟩ => ⟨h1, h.ab h2, hgr w' h2⟩
    | none =>
      rw [Option.isSome_none, if_neg Bool.false_ne_true]
      exact ringAdd_yes B g m t gn kn kc kA key l w h ht hg ik hk hs
  · rw [if_neg hk]
    exact (ringAdd_no B g m t gn kn kc 2 kA l w h ht hg (.inl ⟨rfl, by omega⟩)).mono fun e w' ⟨h1, h2⟩ => ⟨h1, h.ab h2, hgr w' h2⟩
end Go.Proofs.YtakgebbeknfplaaGreat
