/-
  CAPS: what handles are in memory; find, put, Attach, Give, Check, Rights: walks.
-/
import Derived.Test.YtobjdhpdljiijaaMpA
import Derived.Test.YtobjdhpdljiijaaMtA
import Derived.Test.YtobjdhpdljiijaaWid6
import Derived.Test.YtobjdhpdljiijaaLgA
import Derived.Test.YtobjdhpdljiijaaRkB
import Derived.Laws.ResultCell
namespace Go.Proofs.Ytobjdhpdljiijaa
open Go.RowKit
set_option linter.unusedVariables false

def u64V (n : Nat) : Value := .int .u64 (n : Int)
def u64Ok (n : Nat) : Prop := n < 18446744073709551616
theorem u64_wf {n : Nat} (h : u64Ok n) : (Lit.int .u64 (n : Int)).wf = true := by
  unfold u64Ok at h
  have e3 : IntKind.u64.min = 0 := rfl
  have e4 : IntKind.u64.max = 18446744073709551615 := rfl
  simp only [Lit.wf, Bool.and_eq_true, decide_eq_true_eq]
  omega
theorem u64_K : KeyK Try.prog 28 u64V u64Ok where
  keyed := Maps.int_keyed Try.underlying28
  of := fun h => ⟨_, Maps.keyOf_int_mk Try.underlying28 (u64_wf h)⟩
  inj := fun {x y} h => by
    unfold u64V at h
    injection h with _ h
    omega
theorem eq_map1 (d m : Nat) (W : World) : (Op.equalIn (d + 1) 43 (.map (some m)) (.map none)).run Try.prog W = .ok false W := by
  unfold Op.equalIn
  simp [run_underlying Try.underlying43, Result.andThen]
theorem eq_map0 (d : Nat) (W : World) : (Op.equalIn (d + 1) 43 (.map none) (.map none)).run Try.prog W = .ok true W := by
  unfold Op.equalIn
  simp [run_underlying Try.underlying43, Result.andThen]
theorem map_ne (m : Nat) (W : World) : (binOp .eql 43 (.map (some m)) (.map none)).run Try.prog W = .ok (.bool false) W := by
  have h := eq_map1 9999 m W
  simp only [binOp, Op.equal, Op.maxDepth, Sem.run_bind, h, Result.andThen_ok, Sem.run_pure]
theorem map_eq (W : World) : (binOp .eql 43 (.map none) (.map none)).run Try.prog W = .ok (.bool true) W := by
  have h := eq_map0 9999 W
  simp only [binOp, Op.equal, Op.maxDepth, Sem.run_bind, h, Result.andThen_ok, Sem.run_pure]
/-- handles: number, rights, who gave it -/
abbrev CpL := List (Nat × (Nat × Nat))
def hdV (x : Nat × Nat) : Value := .agg #[.int .u8 (x.1 : Int), .int .u64 (x.2 : Int)]
def cpV (l : CpL) : List (Nat × Value) := l.map fun p => (p.1, hdV p.2)
def getC (h : Nat) (l : CpL) : Option (Nat × Nat) := (l.find? fun p => decide (p.1 = h)).map (·.2)
theorem look_cp (h : Nat) : ∀ l : CpL, lookL h (cpV l) = (getC h l).map hdV
  | [] => rfl
  | p :: r => by
    have ih := look_cp h r
    unfold lookL getC cpV at ih ⊢
    rw [List.map_cons]
    by_cases e : p.1 = h
    · rw [List.find?_cons_of_pos (by simpa using e), List.find?_cons_of_pos (by simpa using e)]; rfl
    · rw [List.find?_cons_of_neg (by simpa using e), List.find?_cons_of_neg (by simpa using e)]; exact ih
theorem getC_none {h : Nat} {l : CpL} (hn : ∀ p ∈ l, p.1 ≠ h) : getC h l = none := by
  unfold getC
  rw [Option.map_eq_none_iff, List.find?_eq_none]
  simpa using hn
theorem zero_hd (w : World) : (zeroValue 51).run Try.prog w = .ok (hdV (0, 0)) w := by kernel_rfl
/-- CAPS: their struct's block, their map (if there is one), how many were made -/
structure CpB (w : World) (B c : Nat) (mo : Option Nat) (made : Nat) (l : CpL) : Prop where
  box : CbB w c 45 #[.map mo, .int .u64 (made : Int)]
  low : B ≤ w.heap.size
  map : ∀ m, mo = some m → B ≤ m ∧ MapB u64V u64Ok w m (cpV l)
  nil : mo = none → l = []
  le : ∀ p ∈ l, 1 ≤ p.1 ∧ p.1 ≤ made
section
variable {w w' : World} {B c made : Nat} {mo : Option Nat} {l : CpL}
theorem CpB.ab (h : CpB w B c mo made l) (hb : Below w.heap.size w w') : CpB w' B c mo made l :=
  ⟨h.box.ab hb, Nat.le_trans h.low hb.size, fun m hm => ⟨(h.map m hm).1, (h.map m hm).2.ab hb⟩, h.nil, h.le⟩
theorem CpB.look (h : CpB w B c mo made l) {k : Nat} (hk : u64Ok k) : (Instr.lookup 43 (.map mo) (.int .u64 (k : Int)) true).run Try.prog w = .ok (.tuple #[hdV ((getC k l).getD (0, 0)), .bool (getC k l).isSome]) w := by
  cases mo with
  | none =>
    rw [h.nil rfl]
    exact look_nil (x := k) u64_K Try.underlying43 hk (zero_hd w) true
  | some m =>
    have hm := (h.map m rfl).2
    have hl := look_cp k l
    cases hg : getC k l with
    | none => rw [hg] at hl; exact hm.look_none (x := k) u64_K Try.underlying43 hk hl (zero_hd w) true
    | some x => rw [hg] at hl; exact hm.look_some (x := k) u64_K Try.underlying43 hk hl true
theorem CpB.len (h : CpB w B c mo made l) (ty : TypeId) : (Builtin.len_ #[43] ty #[.map mo]).run Try.prog w = .ok (.int .i64 (l.length : Int)) w := by
  cases mo with
  | none => rw [h.nil rfl]; simp [Builtin.len_, run_underlying Try.underlying43, Result.andThen, goInt]
  | some m =>
    have := (h.map m rfl).2.len Try.underlying43 ty
    simpa [cpV] using this
theorem CpB.new (w : World) (B : Nat) (hB : B ≤ w.heap.size) : CpB (w.alloc (.cells #[.map none, .int .u64 0] 45)) B w.heap.size none 0 [] :=
  ⟨CbB.new _ _ _, Nat.le_trans hB (by simp), fun m hm => (by cases hm), fun _ => rfl, fun p hp => (by cases hp)⟩
end
theorem capsNew_any (w : World) : Calls Try.prog 5 #[] w fun e w' => e = .returned (.pointer (some ⟨w.heap.size, 0, none⟩)) ∧ CpB w' w.heap.size w.heap.size none 0 [] ∧ Below w.heap.size w w' := by
  go_enter Try.func5, Try.ntmps5
  go_wp2_with fail
  go_ret
  exact ⟨rfl, CpB.new w _ (Nat.le_refl _), (Below.refl _ _).alloc (Nat.le_refl _) _⟩
/-- what find tells -/
def findP (k : Nat) (l : CpL) : (Nat × Nat) × Nat := ((getC k l).getD (0, 0), if (getC k l).isSome = true then 0 else 7)
set_option maxRecDepth 100000 in
theorem findNil (k : Value) (w : World) : Calls Try.prog 17 #[.pointer none, k] w fun e w' => e = .returned (.tuple #[.agg #[.int .u8 0, .int .u64 0], .int .i64 1]) ∧ Below w.heap.size w w' := by
  go_enter Try.func17, Try.ntmps17
  go_wp2_with fail
  (try simp only [Exit.inBlock, Exit.then])
  refine bodyPost_ret (v := .tuple #[.agg #[.int .u8 0, .int .u64 0], .int .i64 1]) ?_ rfl ?_
  · rw [results_cell_tmp rfl]
    go_simp
  exact ⟨rfl, (Below.refl _ _).alloc (Nat.le_refl _) _⟩
set_option maxRecDepth 100000 in
theorem find_any (B c made k : Nat) (mo : Option Nat) (l : CpL) (w : World) (h : CpB w B c mo made l) (hk : u64Ok k) :
    Calls Try.prog 17 #[.pointer (some ⟨c, 0, none⟩), .int .u64 (k : Int)] w fun e w' => e = .returned (.tuple #[hdV (findP k l).1, .int .i64 ((findP k l).2 : Int)]) ∧ Below w.heap.size w w' := by
  have ha : Below w.heap.size w (w.alloc (.cells #[.int .u8 0, .int .u64 0] 51)) := (Below.refl _ _).alloc (Nat.le_refl _) _
  have hlk := (h.ab ha).look hk
  have hc := (h.ab ha).box.cell (k := 0) rfl
  unfold findP
  generalize (getC k l).getD (0, 0) = x at *
  generalize (getC k l).isSome = b at *
  unfold hdV at hlk ⊢
  clear h hk ha
  cases b
  · go_enter Try.func17, Try.ntmps17
    go_wp2_with fail
    (try simp only [Exit.inBlock, Exit.then])
    refine bodyPost_ret (v := .tuple #[.agg #[.int .u8 (x.1 : Int), .int .u64 (x.2 : Int)], .int .i64 7]) ?_ rfl ?_
    · rw [results_cell_tmp rfl]
      go_simp
    exact ⟨rfl, by first | exact ((Below.refl _ _).alloc (Nat.le_refl _) _).alloc (by simp) _ | exact ((((Below.refl _ _).alloc (Nat.le_refl _) _).alloc (by simp) _).setCell (by simp) _).setCell (by simp) _⟩
  · go_enter Try.func17, Try.ntmps17
    go_wp2_with fail
    (try simp only [Exit.inBlock, Exit.then])
    refine bodyPost_ret (v := .tuple #[.agg #[.int .u8 (x.1 : Int), .int .u64 (x.2 : Int)], .int .i64 0]) ?_ rfl ?_
    · rw [results_cell_tmp rfl]
      go_simp
    exact ⟨rfl, by first | exact ((Below.refl _ _).alloc (Nat.le_refl _) _).alloc (by simp) _ | exact ((((Below.refl _ _).alloc (Nat.le_refl _) _).alloc (by simp) _).setCell (by simp) _).setCell (by simp) _⟩
/-- behind one handle more -/
def PutP (B c made : Nat) (x : Nat × Nat) (mo : Option Nat) (l : CpL) (w : World) (e : Ending) (w' : World) : Prop :=
  ∃ m', e = .returned (.tuple #[.int .u64 ((made : Int) + 1), .int .i64 0]) ∧ CpB w' B c (some m') (made + 1) (l ++ [(made + 1, x)]) ∧ Fr w w' (fun k => k = c ∨ mo = some k) ∧ (mo = some m' ∨ (mo = none ∧ w.heap.size ≤ m'))
set_option maxRecDepth 100000 in
theorem put_full (B c made : Nat) (x : Nat × Nat) (mo : Option Nat) (l : CpL) (w : World) (h : CpB w B c mo made l) (hf : 64 ≤ l.length) (hl : l.length ≤ 1000) :
    Calls Try.prog 16 #[.pointer (some ⟨c, 0, none⟩), hdV x] w fun e w' => e = .returned (.tuple #[.int .u64 0, .int .i64 9]) ∧ Below w.heap.size w w' := by
  have ha : Below w.heap.size w (w.alloc (.cells #[.int .u8 (x.1 : Int), .int .u64 (x.2 : Int)] 51)) := (Below.refl _ _).alloc (Nat.le_refl _) _
  have hln := (h.ab ha).len
  have hc := (h.ab ha).box.cell (k := 0) rfl
  have h64 : (64 : Int) ≤ (l.length : Int) := by omega
  have HA := Lib.hid ha
  generalize l.length = n at *
  unfold hdV
  clear h ha hf hl
  go_enter Try.func16, Try.ntmps16
  go_wp2_with fail
  go_ret2
  exact ⟨rfl, HA.out⟩
set_option maxRecDepth 100000 in
set_option maxHeartbeats 2000000 in
theorem put_some (B c made m : Nat) (x : Nat × Nat) (l : CpL) (w : World) (h : CpB w B c (some m) made l) (hf : l.length < 64) (hm : made < 9223372036854775807) :
    Calls Try.prog 16 #[.pointer (some ⟨c, 0, none⟩), hdV x] w (PutP B c made x (some m) l w) := by
  have ha : Below w.heap.size w (w.alloc (.cells #[.int .u8 (x.1 : Int), .int .u64 (x.2 : Int)] 51)) := (Below.refl _ _).alloc (Nat.le_refl _) _
  have hln := (h.ab ha).len
  have hc := (h.ab ha).box.cell (k := 0) rfl
  have h64 : ¬ (64 : Int) ≤ (l.length : Int) := by omega
  have hlow := h.low
  have hcl := h.box.lt
  have hw1 : IntKind.u64.wrap ((made : Int) + 1) = (((made + 1 : Nat)) : Int) := wide_u64 (made + 1) (by omega)
  have hnew : getC (made + 1) l = none := getC_none fun p hp e => by have := (h.le p hp).2; omega
  have hle : ∀ p ∈ l ++ [(made + 1, x)], 1 ≤ p.1 ∧ p.1 ≤ made + 1 := fun p hp => by
    rcases List.mem_append.1 hp with hp | hp
    · have := h.le p hp; omega
    · rw [List.mem_singleton] at hp
      subst hp
      exact ⟨by simp, by simp⟩
  have hput : putL (made + 1) (hdV x) (cpV l) = cpV (l ++ [(made + 1, x)]) := by
    unfold putL
    rw [look_cp, hnew]
    simp [cpV]
  have HP := Lib.hid hput
  have HLE := Lib.hid hle
  have HL := Lib.hid hlow
  have HC := Lib.hid hcl
  have HA := Lib.hid ha
  have MK : Hid (u64Ok (made + 1)) := Lib.hid (by unfold u64Ok; omega)
  have HM := Lib.hid (h.map m rfl)
  have hne : c ≠ m := fun e => by
    obtain ⟨es, ck, h1, _⟩ := (h.map m rfl).2
    have h2 := h.box
    unfold CbB at h2
    rw [e, h1] at h2
    cases h2
  have NE := Lib.hid hne
  have C1 := Lib.hid (h.box.ab ha)
  have c1 := C1.out.cell (k := 1) rfl
  have f1 := C1.out.free 1
  clear hne
  have G2 : Hid (Fr w ((w.alloc (.cells #[.int .u8 (x.1 : Int), .int .u64 (x.2 : Int)] 51)).setCell ⟨c, 1, none⟩ (.int .u64 (((made + 1 : Nat)) : Int))) (fun k => k = c ∨ some m = some k)) := Lib.hid ((Fr.of HA.out _).tr ((Fr.grown (grown_cell _ c 1 _)).imp fun k hk => .inl (by injection hk with hk; exact hk.symm)))
  have D2 : Hid (CbB ((w.alloc (.cells #[.int .u8 (x.1 : Int), .int .u64 (x.2 : Int)] 51)).setCell ⟨c, 1, none⟩ (.int .u64 (((made + 1 : Nat)) : Int))) c 45 #[.map (some m), .int .u64 (((made + 1 : Nat)) : Int)]) := Lib.hid (C1.out.set 1 _)
  have M2 : Hid (MapB u64V u64Ok ((w.alloc (.cells #[.int .u8 (x.1 : Int), .int .u64 (x.2 : Int)] 51)).setCell ⟨c, 1, none⟩ (.int .u64 (((made + 1 : Nat)) : Int))) m (cpV l)) := Lib.hid ((HM.out.2.ab HA.out).grown (grown_cell _ c 1 _) (fun e => NE.out (by injection e)))
  have X2 : Hid (CbB ((w.alloc (.cells #[.int .u8 (x.1 : Int), .int .u64 (x.2 : Int)] 51)).setCell ⟨c, 1, none⟩ (.int .u64 (((made + 1 : Nat)) : Int))) w.heap.size 51 #[.int .u8 (x.1 : Int), .int .u64 (x.2 : Int)]) := Lib.hid ((CbB.new w 51 #[.int .u8 (x.1 : Int), .int .u64 (x.2 : Int)]).far (by have := HC.out; omega) _)
  unfold hdV at HP ⊢
  have HN := Lib.hid hln
  clear h hm hlow hcl hnew hle hput ha
  have hmn := fun m W => map_ne m W
  have hmq := fun W => map_eq W
  go_enter Try.func16, Try.ntmps16
  go_upto_region 6 with (fail)
  clear hmn hmq hln hc c1 f1 
  obtain ⟨w2, hw2⟩ : ∃ w2, ((w.alloc (.cells #[.int .u8 (x.1 : Int), .int .u64 (x.2 : Int)] 51)).setCell ⟨c, 1, none⟩ (.int .u64 (((made + 1 : Nat)) : Int))) = w2 := ⟨_, rfl⟩
  have hcs : (((made + 1 : Nat)) : Int) = (made : Int) + 1 := by omega
  rw [hcs] at hw2 G2 D2 M2 X2
  rw [hw2] at G2 D2 M2 X2 ⊢
  have S2 : Hid (w.heap.size ≤ w2.heap.size) := Lib.hid G2.out.size
  clear hw2 C1 HN
  refine wp_wide3 [⟨28, IsR (.pointer (some ⟨c, 0, none⟩)), [], false⟩, ⟨29, IsR (.pointer (some ⟨c, 0, none⟩)), [0], false⟩, ⟨30, IsR (.pointer (some ⟨c, 0, none⟩)), [1], false⟩, ⟨31, IsR (.map (some m)), [2], false⟩, ⟨32, IsR (.pointer (some ⟨c, 0, none⟩)), [], false⟩, ⟨33, IsR (.pointer (some ⟨c, 0, none⟩)), [4], false⟩, ⟨34, IsR (.pointer (some ⟨c, 1, none⟩)), [5], false⟩, ⟨35, IsR (.int .u64 (((made + 1 : Nat)) : Int)), [6], false⟩, ⟨36, IsR (.agg #[.int .u8 (x.1 : Int), .int .u64 (x.2 : Int)]), [], false⟩] (by kernel_rfl) (by kernel_rfl) rfl rfl rfl ⟨?_, ?_, ?_, ?_, ?_, ?_, ?_, ?_, ?_, trivial⟩ ?_
  · refine ⟨rfl, IsR.mono _, fun a W hA hb hd => takes_plain rfl (yields_value _ ?_ rfl)⟩
    have h0 : a.tmps[0]?.getD undef = .pointer (some ⟨c, 0, none⟩) := (eval_get a 0).trans ((hA.eval (by simp)).trans rfl)
    go_simp
  · refine ⟨rfl, IsR.mono _, fun a W hA hb hd => takes_plain rfl (yields_value _ ?_ rfl)⟩
    have h28 : a.tmps[28]?.getD undef = .pointer (some ⟨c, 0, none⟩) := (eval_get a 28).trans (hd 0 (by simp) _ rfl)
    go_simp
  · refine ⟨rfl, IsR.mono _, fun a W hA hb hd => takes_plain rfl (yields_value _ ?_ rfl)⟩
    have h29 : a.tmps[29]?.getD undef = .pointer (some ⟨c, 0, none⟩) := (eval_get a 29).trans (hd 1 (by simp) _ rfl)
    go_simp
  · refine ⟨rfl, IsR.mono _, fun a W hA hb hd => takes_plain rfl (yields_value _ ?_ rfl)⟩
    have h30 : a.tmps[30]?.getD undef = .pointer (some ⟨c, 0, none⟩) := (eval_get a 30).trans (hd 2 (by simp) _ rfl)
    have hcc := (D2.out.ab hb).cell (k := 0) rfl
    go_simp
  · refine ⟨rfl, IsR.mono _, fun a W hA hb hd => takes_plain rfl (yields_value _ ?_ rfl)⟩
    have h0 : a.tmps[0]?.getD undef = .pointer (some ⟨c, 0, none⟩) := (eval_get a 0).trans ((hA.eval (by simp)).trans rfl)
    go_simp
  · refine ⟨rfl, IsR.mono _, fun a W hA hb hd => takes_plain rfl (yields_value _ ?_ rfl)⟩
    have h32 : a.tmps[32]?.getD undef = .pointer (some ⟨c, 0, none⟩) := (eval_get a 32).trans (hd 4 (by simp) _ rfl)
    go_simp
  · refine ⟨rfl, IsR.mono _, fun a W hA hb hd => takes_plain rfl (yields_value _ ?_ rfl)⟩
    have h33 : a.tmps[33]?.getD undef = .pointer (some ⟨c, 0, none⟩) := (eval_get a 33).trans (hd 5 (by simp) _ rfl)
    go_simp
  · refine ⟨rfl, IsR.mono _, fun a W hA hb hd => takes_plain rfl (yields_value _ ?_ rfl)⟩
    have h34 : a.tmps[34]?.getD undef = .pointer (some ⟨c, 1, none⟩) := (eval_get a 34).trans (hd 6 (by simp) _ rfl)
    have hcc := (D2.out.ab hb).cell (k := 1) rfl
    go_simp
  · refine ⟨rfl, IsR.mono _, fun a W hA hb hd => takes_plain rfl (yields_value _ ?_ rfl)⟩
    have h3 : a.tmps[3]?.getD undef = .pointer (some ⟨w.heap.size, 0, none⟩) := (eval_get a 3).trans ((hA.eval (by simp)).trans rfl)
    have hxx := X2.out.ab hb
    have x0 := hxx.cell (k := 0) rfl
    have x1 := hxx.cell (k := 1) rfl
    go_simp
  intro vs w3 hR hF hb
  have e28 : vs 28 = .pointer (some ⟨c, 0, none⟩) := hR 0 _ rfl
  have e29 : vs 29 = .pointer (some ⟨c, 0, none⟩) := hR 1 _ rfl
  have e30 : vs 30 = .pointer (some ⟨c, 0, none⟩) := hR 2 _ rfl
  have e31 : vs 31 = .map (some m) := hR 3 _ rfl
  have e32 : vs 32 = .pointer (some ⟨c, 0, none⟩) := hR 4 _ rfl
  have e33 : vs 33 = .pointer (some ⟨c, 0, none⟩) := hR 5 _ rfl
  have e34 : vs 34 = .pointer (some ⟨c, 1, none⟩) := hR 6 _ rfl
  have e35 : vs 35 = .int .u64 (((made + 1 : Nat)) : Int) := hR 7 _ rfl
  have e36 : vs 36 = .agg #[.int .u8 (x.1 : Int), .int .u64 (x.2 : Int)] := hR 8 _ rfl
  simp only [List.map_cons, List.map_nil, List.foldl_cons, List.foldl_nil, List.length_cons, List.length_nil, List.drop_succ_cons, List.drop_zero, Act.put, List.setIfInBounds_toArray, List.set_cons_zero, List.set_cons_succ, e28, e29, e30, e31, e32, e33, e34, e35, e36]
  have M3 := Lib.hid (M2.out.ab hb)
  have D3 := Lib.hid (D2.out.ab hb)
  have G3 := Lib.hid (G2.out.tr (Fr.of hb _))
  have S3 : Hid (w.heap.size ≤ w3.heap.size) := Lib.hid G3.out.size
  clear hR hF hb G2 D2 M2 X2 e28 e29 e30 e31 e32 e33 e34 e35 e36
  go_wp2_with (refine wpList_mapPut rfl (.tmp 31) (.tmp 35) (.tmp 36) rfl u64_K Try.underlying43 rfl M3.out (made + 1) MK.out rfl (.agg #[.int .u8 (x.1 : Int), .int .u64 (x.2 : Int)]) rfl ?_
               intro w4 m4 g4 s4 b4
               have M4 := Lib.hid m4
               have D4 := Lib.hid (D3.out.grown g4 NE.out)
               have G4 := Lib.hid (Fr.grown g4)
               have hcc := D4.out.cell (k := 1) rfl
               clear m4 g4 s4 b4)
  go_ret2
  rw [HP.out] at M4
  exact ⟨m, rfl, ⟨D4.out, Nat.le_trans HL.out (Nat.le_trans S3.out G4.out.size), fun k hk => by injection hk with hk; subst hk; exact ⟨HM.out.1, M4.out⟩, fun hk => (by cases hk), HLE.out⟩, G3.out.tr (G4.out.imp fun k hk => .inr hk), .inl rfl⟩
set_option maxRecDepth 100000 in
set_option maxHeartbeats 2000000 in
theorem put_none (B c made : Nat) (x : Nat × Nat) (l : CpL) (w : World) (h : CpB w B c (none) made l) (hf : l.length < 64) (hm : made < 9223372036854775807) :
    Calls Try.prog 16 #[.pointer (some ⟨c, 0, none⟩), hdV x] w (PutP B c made x (none) l w) := by
  have ha : Below w.heap.size w (w.alloc (.cells #[.int .u8 (x.1 : Int), .int .u64 (x.2 : Int)] 51)) := (Below.refl _ _).alloc (Nat.le_refl _) _
  have hln := (h.ab ha).len
  have hc := (h.ab ha).box.cell (k := 0) rfl
  have h64 : ¬ (64 : Int) ≤ (l.length : Int) := by omega
  have hlow := h.low
  have hcl := h.box.lt
  have hw1 : IntKind.u64.wrap ((made : Int) + 1) = (((made + 1 : Nat)) : Int) := wide_u64 (made + 1) (by omega)
  have hnew : getC (made + 1) l = none := getC_none fun p hp e => by have := (h.le p hp).2; omega
  have hle : ∀ p ∈ l ++ [(made + 1, x)], 1 ≤ p.1 ∧ p.1 ≤ made + 1 := fun p hp => by
    rcases List.mem_append.1 hp with hp | hp
    · have := h.le p hp; omega
    · rw [List.mem_singleton] at hp
      subst hp
      exact ⟨by simp, by simp⟩
  have hput : putL (made + 1) (hdV x) (cpV l) = cpV (l ++ [(made + 1, x)]) := by
    unfold putL
    rw [look_cp, hnew]
    simp [cpV]
  have HP := Lib.hid hput
  have HLE := Lib.hid hle
  have HL := Lib.hid hlow
  have HC := Lib.hid hcl
  have HA := Lib.hid ha
  have MK : Hid (u64Ok (made + 1)) := Lib.hid (by unfold u64Ok; omega)
  have hl0 : l = [] := h.nil rfl
  have hmm : ∀ W : World, (Instr.makeMap 43 none).run Try.prog W = .ok (.map (some W.heap.size)) (W.alloc (.map #[] 0)) := fun _ => rfl
  have L0 := Lib.hid hl0
  have a2 : Below w.heap.size w ((w.alloc (.cells #[.int .u8 (x.1 : Int), .int .u64 (x.2 : Int)] 51)).alloc (.map #[] 0)) := ha.alloc (by simp) _
  have A2 := Lib.hid a2
  have C2 := Lib.hid (h.box.ab a2)
  have f0 := C2.out.free 0
  have C3 := Lib.hid (C2.out.set 0 (.map (some (w.heap.size + 1))))
  have c1 := C3.out.cell (k := 1) rfl
  have f1 := C3.out.free 1
  have c0 := C2.out.cell (k := 0) rfl
  clear hl0 a2
  have G2 : Hid (Fr w ((((w.alloc (.cells #[.int .u8 (x.1 : Int), .int .u64 (x.2 : Int)] 51)).alloc (.map #[] 0)).setCell ⟨c, 0, none⟩ (.map (some (w.heap.size + 1)))).setCell ⟨c, 1, none⟩ (.int .u64 (((made + 1 : Nat)) : Int))) (fun k => k = c ∨ none = some k)) := Lib.hid (((Fr.of A2.out _).tr ((Fr.grown (grown_cell _ c 0 _)).imp fun k hk => .inl (by injection hk with hk; exact hk.symm))).tr ((Fr.grown (grown_cell _ c 1 _)).imp fun k hk => .inl (by injection hk with hk; exact hk.symm)))
  have D2 : Hid (CbB ((((w.alloc (.cells #[.int .u8 (x.1 : Int), .int .u64 (x.2 : Int)] 51)).alloc (.map #[] 0)).setCell ⟨c, 0, none⟩ (.map (some (w.heap.size + 1)))).setCell ⟨c, 1, none⟩ (.int .u64 (((made + 1 : Nat)) : Int))) c 45 #[.map (some (w.heap.size + 1)), .int .u64 (((made + 1 : Nat)) : Int)]) := Lib.hid (C3.out.set 1 _)
  have M2 : Hid (MapB u64V u64Ok ((((w.alloc (.cells #[.int .u8 (x.1 : Int), .int .u64 (x.2 : Int)] 51)).alloc (.map #[] 0)).setCell ⟨c, 0, none⟩ (.map (some (w.heap.size + 1)))).setCell ⟨c, 1, none⟩ (.int .u64 (((made + 1 : Nat)) : Int))) (w.heap.size + 1) (cpV l)) := Lib.hid (by
    rw [L0.out]
    have h0 := MapB.new u64V u64Ok (w.alloc (.cells #[.int .u8 (x.1 : Int), .int .u64 (x.2 : Int)] 51))
    rw [show (w.alloc (.cells #[.int .u8 (x.1 : Int), .int .u64 (x.2 : Int)] 51)).heap.size = w.heap.size + 1 by simp] at h0
    exact (h0.grown (grown_cell _ c 0 _) (by have := HC.out; simp; omega)).grown (grown_cell _ c 1 _) (by have := HC.out; simp; omega))
  have X2 : Hid (CbB ((((w.alloc (.cells #[.int .u8 (x.1 : Int), .int .u64 (x.2 : Int)] 51)).alloc (.map #[] 0)).setCell ⟨c, 0, none⟩ (.map (some (w.heap.size + 1)))).setCell ⟨c, 1, none⟩ (.int .u64 (((made + 1 : Nat)) : Int))) w.heap.size 51 #[.int .u8 (x.1 : Int), .int .u64 (x.2 : Int)]) := Lib.hid ((((CbB.new w 51 #[.int .u8 (x.1 : Int), .int .u64 (x.2 : Int)]).ab ((Below.refl _ _).alloc (Nat.le_refl _) _)).far (by have := HC.out; omega) _).far (by have := HC.out; omega) _)
  have NE : Hid (c ≠ w.heap.size + 1) := Lib.hid (by have := HC.out; omega)
  unfold hdV at HP ⊢
  have HN := Lib.hid hln
  clear h hm hlow hcl hnew hle hput ha
  have hmn := fun m W => map_ne m W
  have hmq := fun W => map_eq W
  go_enter Try.func16, Try.ntmps16
  go_upto_region 6 with (fail)
  clear hmn hmq hln hc c1 f1 f0 c0 hmm
  obtain ⟨w2, hw2⟩ : ∃ w2, ((((w.alloc (.cells #[.int .u8 (x.1 : Int), .int .u64 (x.2 : Int)] 51)).alloc (.map #[] 0)).setCell ⟨c, 0, none⟩ (.map (some (w.heap.size + 1)))).setCell ⟨c, 1, none⟩ (.int .u64 (((made + 1 : Nat)) : Int))) = w2 := ⟨_, rfl⟩
  have hcs : (((made + 1 : Nat)) : Int) = (made : Int) + 1 := by omega
  rw [hcs] at hw2 G2 D2 M2 X2
  rw [hw2] at G2 D2 M2 X2 ⊢
  have S2 : Hid (w.heap.size ≤ w2.heap.size) := Lib.hid G2.out.size
  clear hw2 C2 C3 A2 HN
  refine wp_wide3 [⟨28, IsR (.pointer (some ⟨c, 0, none⟩)), [], false⟩, ⟨29, IsR (.pointer (some ⟨c, 0, none⟩)), [0], false⟩, ⟨30, IsR (.pointer (some ⟨c, 0, none⟩)), [1], false⟩, ⟨31, IsR (.map (some (w.heap.size + 1))), [2], false⟩, ⟨32, IsR (.pointer (some ⟨c, 0, none⟩)), [], false⟩, ⟨33, IsR (.pointer (some ⟨c, 0, none⟩)), [4], false⟩, ⟨34, IsR (.pointer (some ⟨c, 1, none⟩)), [5], false⟩, ⟨35, IsR (.int .u64 (((made + 1 : Nat)) : Int)), [6], false⟩, ⟨36, IsR (.agg #[.int .u8 (x.1 : Int), .int .u64 (x.2 : Int)]), [], false⟩] (by kernel_rfl) (by kernel_rfl) rfl rfl rfl ⟨?_, ?_, ?_, ?_, ?_, ?_, ?_, ?_, ?_, trivial⟩ ?_
  · refine ⟨rfl, IsR.mono _, fun a W hA hb hd => takes_plain rfl (yields_value _ ?_ rfl)⟩
    have h0 : a.tmps[0]?.getD undef = .pointer (some ⟨c, 0, none⟩) := (eval_get a 0).trans ((hA.eval (by simp)).trans rfl)
    go_simp
  · refine ⟨rfl, IsR.mono _, fun a W hA hb hd => takes_plain rfl (yields_value _ ?_ rfl)⟩
    have h28 : a.tmps[28]?.getD undef = .pointer (some ⟨c, 0, none⟩) := (eval_get a 28).trans (hd 0 (by simp) _ rfl)
    go_simp
  · refine ⟨rfl, IsR.mono _, fun a W hA hb hd => takes_plain rfl (yields_value _ ?_ rfl)⟩
    have h29 : a.tmps[29]?.getD undef = .pointer (some ⟨c, 0, none⟩) := (eval_get a 29).trans (hd 1 (by simp) _ rfl)
    go_simp
  · refine ⟨rfl, IsR.mono _, fun a W hA hb hd => takes_plain rfl (yields_value _ ?_ rfl)⟩
    have h30 : a.tmps[30]?.getD undef = .pointer (some ⟨c, 0, none⟩) := (eval_get a 30).trans (hd 2 (by simp) _ rfl)
    have hcc := (D2.out.ab hb).cell (k := 0) rfl
    go_simp
  · refine ⟨rfl, IsR.mono _, fun a W hA hb hd => takes_plain rfl (yields_value _ ?_ rfl)⟩
    have h0 : a.tmps[0]?.getD undef = .pointer (some ⟨c, 0, none⟩) := (eval_get a 0).trans ((hA.eval (by simp)).trans rfl)
    go_simp
  · refine ⟨rfl, IsR.mono _, fun a W hA hb hd => takes_plain rfl (yields_value _ ?_ rfl)⟩
    have h32 : a.tmps[32]?.getD undef = .pointer (some ⟨c, 0, none⟩) := (eval_get a 32).trans (hd 4 (by simp) _ rfl)
    go_simp
  · refine ⟨rfl, IsR.mono _, fun a W hA hb hd => takes_plain rfl (yields_value _ ?_ rfl)⟩
    have h33 : a.tmps[33]?.getD undef = .pointer (some ⟨c, 0, none⟩) := (eval_get a 33).trans (hd 5 (by simp) _ rfl)
    go_simp
  · refine ⟨rfl, IsR.mono _, fun a W hA hb hd => takes_plain rfl (yields_value _ ?_ rfl)⟩
    have h34 : a.tmps[34]?.getD undef = .pointer (some ⟨c, 1, none⟩) := (eval_get a 34).trans (hd 6 (by simp) _ rfl)
    have hcc := (D2.out.ab hb).cell (k := 1) rfl
    go_simp
  · refine ⟨rfl, IsR.mono _, fun a W hA hb hd => takes_plain rfl (yields_value _ ?_ rfl)⟩
    have h3 : a.tmps[3]?.getD undef = .pointer (some ⟨w.heap.size, 0, none⟩) := (eval_get a 3).trans ((hA.eval (by simp)).trans rfl)
    have hxx := X2.out.ab hb
    have x0 := hxx.cell (k := 0) rfl
    have x1 := hxx.cell (k := 1) rfl
    go_simp
  intro vs w3 hR hF hb
  have e28 : vs 28 = .pointer (some ⟨c, 0, none⟩) := hR 0 _ rfl
  have e29 : vs 29 = .pointer (some ⟨c, 0, none⟩) := hR 1 _ rfl
  have e30 : vs 30 = .pointer (some ⟨c, 0, none⟩) := hR 2 _ rfl
  have e31 : vs 31 = .map (some (w.heap.size + 1)) := hR 3 _ rfl
  have e32 : vs 32 = .pointer (some ⟨c, 0, none⟩) := hR 4 _ rfl
  have e33 : vs 33 = .pointer (some ⟨c, 0, none⟩) := hR 5 _ rfl
  have e34 : vs 34 = .pointer (some ⟨c, 1, none⟩) := hR 6 _ rfl
  have e35 : vs 35 = .int .u64 (((made + 1 : Nat)) : Int) := hR 7 _ rfl
  have e36 : vs 36 = .agg #[.int .u8 (x.1 : Int), .int .u64 (x.2 : Int)] := hR 8 _ rfl
  simp only [List.map_cons, List.map_nil, List.foldl_cons, List.foldl_nil, List.length_cons, List.length_nil, List.drop_succ_cons, List.drop_zero, Act.put, List.setIfInBounds_toArray, List.set_cons_zero, List.set_cons_succ, e28, e29, e30, e31, e32, e33, e34, e35, e36]
  have M3 := Lib.hid (M2.out.ab hb)
  have D3 := Lib.hid (D2.out.ab hb)
  have G3 := Lib.hid (G2.out.tr (Fr.of hb _))
  have S3 : Hid (w.heap.size ≤ w3.heap.size) := Lib.hid G3.out.size
  clear hR hF hb G2 D2 M2 X2 e28 e29 e30 e31 e32 e33 e34 e35 e36
  go_wp2_with (refine wpList_mapPut rfl (.tmp 31) (.tmp 35) (.tmp 36) rfl u64_K Try.underlying43 rfl M3.out (made + 1) MK.out rfl (.agg #[.int .u8 (x.1 : Int), .int .u64 (x.2 : Int)]) rfl ?_
               intro w4 m4 g4 s4 b4
               have M4 := Lib.hid m4
               have D4 := Lib.hid (D3.out.grown g4 NE.out)
               have G4 := Lib.hid (Fr.grown g4)
               have hcc := D4.out.cell (k := 1) rfl
               clear m4 g4 s4 b4)
  go_ret2
  rw [HP.out] at M4
  refine ⟨w.heap.size + 1, rfl, ⟨D4.out, Nat.le_trans HL.out (Nat.le_trans S3.out G4.out.size), fun k hk => by injection hk with hk; subst hk; exact ⟨by have := HL.out; omega, M4.out⟩, fun hk => (by cases hk), HLE.out⟩, ?_, .inr ⟨rfl, Nat.le_succ _⟩⟩
  refine ⟨G4.out.os.trans G3.out.os, G4.out.tape.trans G3.out.tape, G4.out.output.trans G3.out.output, Nat.le_trans S3.out G4.out.size, fun k hk hn => ?_⟩
  have hlt : k < w3.heap.size := Nat.lt_of_lt_of_le hk S3.out
  rw [G4.out.block k hlt (fun e => by injection e with e; omega)]
  exact G3.out.block k hk hn
end Go.Proofs.Ytobjdhpdljiijaa
