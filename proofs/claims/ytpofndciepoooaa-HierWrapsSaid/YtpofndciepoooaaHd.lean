/-
  A REGION THAT DRAWS ITS ORDER, whose calls make memory: the operations ahead that only read what was there are taken first, in the text's order, whatever memory the others make meanwhile.
-/
import Derived.Test.YtpofndciepoooaaQtT
import Derived.Deep.RegionHeld
namespace Go.Proofs.Ytpofndciepoooaa
open Go.RowKit
set_option linter.unusedVariables false

section
variable {P : Program} {ops : Array Oper} {S : World → Prop} {Q : Exit → Act → World → Prop}
def takesB (P : Program) (ops : Array Oper) (S : World → Prop) (L : Act → Prop) : List Oper → Act → Prop
  | [], a => L a
  | o :: rest, a => ∃ v, YieldsIf P ops S o v a ∧ takesB P ops S L rest (a.put o.dst v)
/-- what is listed behind them -/
def takenB : Nat → Nat → Array Bool → Array Bool
  | 0, _, listed => listed
  | f + 1, k, listed => takenB f (k + 1) (listed.setIfInBounds k true)
def lexTakeB (ops : Array Oper) : Nat → Nat → Array Bool → Bool
  | 0, _, _ => true
  | f + 1, k, listed => (Region.ready .any ops listed).contains k && Region.free .any ops listed k && lexTakeB ops f (k + 1) (listed.setIfInBounds k true)
theorem takesB_nil {L : Act → Prop} {a : Act} (h : L a) : takesB P ops S L [] a := h
theorem takesB_step {L : Act → Prop} {a : Act} {o : Oper} {rest : List Oper} {v : Value} (hg : o.guard = none) (h : ∀ w, S w → (execOp a.eval o).run P w = .ok (.value v) w) (h2 : takesB P ops S L rest (a.put o.dst v)) : takesB P ops S L (o :: rest) a :=
  ⟨v, .inl ⟨by simp [Region.wanted, hg], h⟩, h2⟩
theorem exec_loadB {o : Oper} {a : Act} {w : World} (ty : TypeId) (x : Operand) (ho : o.op = .load ty x)
    (g : Nat) (hx : a.eval x = .pointer (some ⟨g, 0, none⟩)) {t : TypeId} {l : List Nat} (hg : Bk w g t l) {m : Nat} {e : TypeId}
    (hu : P.underlying ty = some (.array m e)) (hi : (P.info? ty).map (·.size) = some l.length) : (execOp a.eval o).run P w = .ok (.value (.agg (bts l))) w := by
  have hrun : (loadVar ty ⟨g, 0, none⟩).run P w = .ok (.agg (bts l)) w := run_loadVar_row w g t ty (bts l) (0, 0) _ hg hu rfl (by rw [bts_size]; exact hi)
  unfold execOp
  simp only [ho, hx, Instr.loadAt, Instr.sureAddr, Sem.run_bind, Sem.run_pure, Result.andThen_ok, hrun]
theorem wpStill_loadB {rest : List Oper} {o : Oper} {a : Act} {w : World} {Q : Act → Prop} (hgd : o.guard = none) (ty : TypeId) (x : Operand) (ho : o.op = .load ty x)
    (g : Nat) (hx : a.eval x = .pointer (some ⟨g, 0, none⟩)) {t : TypeId} {l : List Nat} (hg : Bk w g t l) {m : Nat} {e : TypeId}
    (hu : P.underlying ty = some (.array m e)) (hi : (P.info? ty).map (·.size) = some l.length)
    (h : wpStill P ops w Q rest (a.put o.dst (.agg (bts l)))) : wpStill P ops w Q (o :: rest) a := by
  refine wpStill_step fun K hK => ?_
  have hw : Region.wanted o (yielded ops a.tmps) = true := by simp [Region.wanted, hgd]
  rw [if_pos hw]
  unfold Oper.still
  rw [exec_loadB ty x ho g hx hg hu hi, Oper.stillUpon_value]
  exact hK _ h
theorem takesB_loadB {L : Act → Prop} {rest : List Oper} {o : Oper} {a : Act} (hgd : o.guard = none) (ty : TypeId) (x : Operand) (ho : o.op = .load ty x)
    (g : Nat) (hx : a.eval x = .pointer (some ⟨g, 0, none⟩)) {t : TypeId} {l : List Nat} (hg : ∀ w, S w → Bk w g t l) {m : Nat} {e : TypeId}
    (hu : P.underlying ty = some (.array m e)) (hi : (P.info? ty).map (·.size) = some l.length)
    (h : takesB P ops S L rest (a.put o.dst (.agg (bts l)))) : takesB P ops S L (o :: rest) a :=
  takesB_step hgd (fun w hw => exec_loadB ty x ho g hx (hg w hw) hu hi) h
theorem anyH_takes {L : Act → Prop} {F : Nat} {w : World} (hsel : Region.noSelect ops = true) (hS : S w) (hQ : ∀ c a v d w, Q (.panic c) (a.put d v) w → Q (.panic c) a w) :
    ∀ (l : List Oper) (k : Nat) (listed : Array Bool) (a : Act), (∀ j, j < l.length → l[j]? = ops[k + j]?) → lexTakeB ops l.length k listed = true → takesB P ops S L l a →
    (∀ a', L a' → wpAnyH P .any ops Q S F (takenB l.length k listed) a' w) → wpAnyH P .any ops Q S (F + l.length) listed a w
  | [], k, listed, a, _, _, h, hL => hL a h
  | o :: l, k, listed, a, hl, hB, h, hL => by
    obtain ⟨v, hy, h2⟩ := h
    have h0 : ops[k]? = some o := by simpa using (hl 0 (by simp)).symm
    simp only [List.length_cons, lexTakeB, Bool.and_eq_true] at hB
    exact wpAnyH_take h0 hsel hB.1.2 hB.1.1 (fun c a w => hQ c a v o.dst w) hy hS
      (anyH_takes hsel hS hQ l (k + 1) _ _ (fun j hj => by have := hl (j + 1) (by simp; omega); simpa [Nat.add_assoc, Nat.add_comm 1 j] using this) hB.2 h2 hL)
/-- THE BEGINNING: n operations are taken first. -/
theorem wp_takes {id : Nat} {a : Act} {w : World} {l : List Oper} (n F : Nat) (S : World → Prop) (hF : l.length = F + n) (hm : P.follows .mixedOrders = true) (hS : S w.drew) (hsel : Region.noSelect l.toArray = true) (hB : lexTakeB l.toArray n 0 (Array.replicate l.toArray.size false) = true)
    (hQ : ∀ c a v d w, Q (.panic c) (a.put d v) w → Q (.panic c) a w)
    (h : takesB P l.toArray S (fun a' => wpAnyH P .any l.toArray Q S F (takenB n 0 (Array.replicate l.toArray.size false)) a' w.drew) (l.take n) a) : (Code.region id l.toArray true).wp P Q a w := by
  refine wp_region_held hm (S := S) ?_
  have hn : (l.take n).length = n := by simp; omega
  have := anyH_takes (F := F) (Q := Q) (w := w.drew) hsel hS hQ (l.take n) 0 (Array.replicate l.toArray.size false) a (fun j hj => by
    rw [hn] at hj
    simp [hj]) (by rw [hn]; exact hB) h (fun a' ha => by rw [hn]; exact ha)
  rw [hn] at this
  rw [show l.toArray.size = F + n by simpa using hF]
  have e : l.toArray.size = F + n := by simpa using hF
  rw [e] at this
  exact this
section
variable {C : World → Prop}
/-- quiet steps over a class of worlds -/
theorem quiet_value {Q : Act → Prop} {a : Act} {o : Oper} {rest : List Oper} {v : Value} (hg : Region.wanted o (yielded ops a.tmps) = true) (h : ∀ w, C w → (execOp a.eval o).run P w = .ok (.value v) w) (h2 : wpQuiet P ops C Q rest (a.put o.dst v)) : wpQuiet P ops C Q (o :: rest) a := by
  refine wpQuiet_step fun K hK => ?_
  rw [if_pos hg]
  refine ⟨v, fun w hw => ?_, hK _ h2⟩
  unfold Oper.quietAt
  rw [h w hw]
  exact ⟨rfl, rfl⟩
theorem quiet_call {Q : Act → Prop} {a : Act} {o : Oper} {rest : List Oper} {v : Value} {f : FuncId} {args : Array Value} (hg : Region.wanted o (yielded ops a.tmps) = true) (hr : ∀ w, (execOp a.eval o).run P w = .ok (.enter f args) w)
    (hc : ∀ w, C w → Calls P f args w fun e w' => e = .returned v ∧ C w') (h2 : wpQuiet P ops C Q rest (a.put o.dst v)) : wpQuiet P ops C Q (o :: rest) a := by
  refine wpQuiet_step fun K hK => ?_
  rw [if_pos hg]
  refine ⟨v, fun w hw => ?_, hK _ h2⟩
  unfold Oper.quietAt
  rw [hr w]
  exact ⟨rfl, hc w hw⟩
theorem quiet_loadB {Q : Act → Prop} {rest : List Oper} {o : Oper} {a : Act} (hgd : Region.wanted o (yielded ops a.tmps) = true) (ty : TypeId) (x : Operand) (ho : o.op = .load ty x)
    (g : Nat) (hx : a.eval x = .pointer (some ⟨g, 0, none⟩)) {t : TypeId} {l : List Nat} (hg : ∀ w, C w → Bk w g t l) {m : Nat} {e : TypeId}
    (hu : P.underlying ty = some (.array m e)) (hi : (P.info? ty).map (·.size) = some l.length)
    (h : wpQuiet P ops C Q rest (a.put o.dst (.agg (bts l)))) : wpQuiet P ops C Q (o :: rest) a :=
  quiet_value hgd (fun w hw => exec_loadB ty x ho g hx (hg w hw) hu hi) h
end
/-- .. with what lies above a world -/
def AbW (w0 : World) : World → Prop := Below w0.heap.size w0
theorem AbW.refl (w : World) : AbW w w := Below.refl _ _
end

theorem results_bts2 {P : Program} {fn : Func} {p q : Tmp} {ty : TypeId} (h : fn.results = #[.cell p ty, .tmp q]) (tmps : Array Value) (w : World) (g : Nat) {t : TypeId} {l : List Nat}
    (hp : tmps.getD p undef = .pointer (some ⟨g, 0, none⟩)) (hg : Bk w g t l) {m : Nat} {e : TypeId} (hu : P.underlying ty = some (.array m e)) (hi : (P.info? ty).map (·.size) = some l.length) :
    (results fn tmps).run P w = .ok (.tuple #[.agg (bts l), tmps.getD q undef]) w := by
  have hp' : tmps[p]?.getD undef = .pointer (some ⟨g, 0, none⟩) := by simpa using hp
  simp [results, h, hp', asAddr, run_loadVar_row w g t ty (bts l) (0, 0) _ hg hu rfl (by rw [bts_size]; exact hi)]
end Go.Proofs.Ytpofndciepoooaa
