/-
  WALKS: Decrypt.
  WALKS: the reference's Encrypt and Decrypt.
  WALKS: the reference's Decrypt.
  FOR THE LAWS: arrays of bytes that came in; arrays held against each other; what is kept by calls.
-/
import Derived.Test.YtobjdhpdljiijaaAeL
import Derived.Deep.DeepCutAuto
import Derived.Test.YtobjdhpdljiijaaAeO
import Derived.ChangeKeysEq
import Derived.Laws.StructEq
import Derived.WideShapes
namespace Go.Proofs.Ytobjdhpdljiijaa
open Go.RowKit
set_option linter.unusedVariables false

end Go.Proofs.Ytobjdhpdljiijaa

namespace Go.Proofs.Ytobjdhpdljiijaa
open Go.RowKit
set_option linter.unusedVariables false

theorem wordsAll_len {K R : Nat} (l : List Nat) (hK : K = 4 ∨ K = 8) (hR : R = K + 6) (hl : l.length = 4 * K) : (wordsAll K l).length = 16 * (R + 1) := by
  subst hR
  rw [wordsAll, wordsOf_len K l hl]
  rcases hK with rfl | rfl <;> rfl
theorem Rw.far {w : World} {g : Nat} {W : List Nat} (h : Rw w g W) {c k : Nat} (hne : g ≠ c) (u : Value) : Rw (w.setCell ⟨c, k, none⟩ u) g W :=
  ⟨by simpa using h.lt, fun i hi => by rw [World.cell?_setCell_far _ _ _ _ (by show c ≠ g; omega)]; exact h.cell i hi⟩
theorem Rw.rowFar {w : World} {g : Nat} {W : List Nat} (h : Rw w g W) {c : Nat} (hne : g ≠ c) (cs : Array Value) : Rw (w.setRow c cs) g W :=
  ⟨by simpa using h.lt, fun i hi => (World.cell?_of_block (a := ⟨g, i, none⟩) (setRow_other w c g cs hne)).trans (h.cell i hi)⟩
section
variable {B g gW : Nat} {w0 w w1 : World} {s W : List Nat}
end
theorem row_upd (F : Nat → Nat) (s : List Nat) (q : Nat) (hs : s.length = 16) (hq : q < 4) : rowOf (upd F s (4 * q)) q = rowOf s q := by
  apply List.ext_getElem (by simp [rowOf, upd_len])
  intro i h1 h2
  have hi : i < 4 := by simp [rowOf] at h2; omega
  simp only [rowOf, List.getElem_take, List.getElem_drop]
  have := upd_get F s (4 * q) (4 * q + i) (by omega)
  rw [if_neg (by omega), List.getElem?_eq_getElem (by rw [upd_len]; omega), List.getElem?_eq_getElem (by omega)] at this
  exact this

end Go.Proofs.Ytobjdhpdljiijaa

namespace Go.Proofs.Ytobjdhpdljiijaa
open Go.RowKit
set_option linter.unusedVariables false

end Go.Proofs.Ytobjdhpdljiijaa

namespace Go.Proofs.Ytobjdhpdljiijaa
open Go.RowKit
set_option linter.unusedVariables false

def byteV : Value → Nat
  | .int _ z => z.toNat
  | _ => 0
section
variable {P : Program}
/-- an array of bytes that came in -/
theorem okWide_bytes {w : World} {r : Reach} {base n : Nat} {t e : TypeId} {v : Value} {ts : List TypeId} (ht : P.underlying t = some (.array n e)) (he : P.underlying e = some (.int .u8)) (hc : P.cellsOf t = n) (hts : P.cellTypes P.depth t = some ts) (hte : ∀ u ∈ ts, u = e)
    (h : Value.okWide P w r base t v) : ∃ l, v = .agg (bts l) ∧ Byt l ∧ l.length = n := by
  simp only [Value.okWide, ht] at h
  obtain ⟨cs, rfl, hs, ts', h1, _, h2⟩ := h
  rw [hts] at h1
  injection h1 with h1
  subst h1
  have hcell : ∀ i (hi : i < cs.size), ∃ x : Nat, cs[i] = .int .u8 (x : Int) ∧ x < 256 := by
    intro i hi
    obtain ⟨u, hu, hk⟩ := h2 i cs[i] (Array.getElem?_eq_getElem hi)
    have := hte u (List.mem_of_getElem? hu)
    subst this
    generalize cs[i] = v at hk
    cases v <;> simp only [Cell.okWide, he, Cell.ok] at hk
    rename_i k z
    obtain ⟨rfl, hz⟩ := hk
    have e1 : IntKind.u8.min = 0 := rfl
    have e2 : IntKind.u8.max = 255 := rfl
    simp only [IntKind.has, e1, e2] at hz
    exact ⟨z.toNat, by congr 1; omega, by omega⟩
  refine ⟨(List.range cs.size).map fun i => byteV (cs[i]?.getD undef), ?_, ?_, by simp [hs, hc]⟩
  · congr 1
    apply Array.ext (by simp [bts])
    intro i h1 h2
    obtain ⟨x, hx, _⟩ := hcell i h1
    simp [bts, hx, byteV, Array.getElem?_eq_getElem h1]
  · intro x hx
    obtain ⟨i, hi, rfl⟩ := List.mem_map.1 hx
    have hi : i < cs.size := by simpa using hi
    obtain ⟨x, hx, hb⟩ := hcell i hi
    simp only [Array.getElem?_eq_getElem hi, hx, Option.getD_some, byteV]
    omega

theorem run_part_byte (w : World) {e : TypeId} {i : TypeInfo} (l : List Nat) (k : Nat) (he : P.underlying e = some (.int .u8)) (hi : P.info? e = some i) (hs : i.size = 1) (hk : k < l.length) :
    (part e (bts l) k).run P w = .ok (.int .u8 (at' l k : Nat)) w := by
  have hg := bts_get l k hk
  simp [part, isAgg, sizeOf, typeInfo, run_underlying he, hi, hs, hg, at']
theorem run_eq_bytes (w : World) (d : Nat) {t e : TypeId} {n : Nat} {i : TypeInfo} (a b : List Nat) (hu : P.underlying t = some (.array n e)) (he : P.underlying e = some (.int .u8)) (hi : P.info? e = some i) (hs : i.size = 1) (hc : P.cellsOf e = 1) (ha : a.length = n) (hb : b.length = n) :
    (Op.equalIn (d + 2) t (.agg (bts a)) (.agg (bts b))).run P w = .ok (decide (a = b)) w := by
  rw [run_equalIn_array (d := d + 1) (w := w) (bts a) (bts b) hu hi, hc]
  have key : ∀ is : List Nat, (∀ i ∈ is, i < n) → (Op.eqItems (d + 1) e 1 (bts a) (bts b) is).run P w = .ok (decide (∀ i ∈ is, at' a i = at' b i)) w := by
    intro is
    induction is with
    | nil => intro _; simp [Op.eqItems]
    | cons j is ih =>
      intro hj
      have h1 := run_part_byte (P := P) w a j he hi hs (by rw [ha]; exact hj j (by simp))
      have h2 := run_part_byte (P := P) w b j he hi hs (by rw [hb]; exact hj j (by simp))
      have h3 := run_equalIn_int (P := P) (w := w) d e .u8 .u8 (at' a j : Nat) (at' b j : Nat) he
      simp only [Op.eqItems, Sem.run_bind, Nat.mul_one, h1, h2, h3, Result.andThen_ok]
      by_cases hab : at' a j = at' b j
      · have : (((at' a j : Nat) : Int) == ((at' b j : Nat) : Int)) = true := by rw [beq_iff_eq]; omega
        rw [this]
        simp only [Bool.not_true, Bool.false_eq_true, if_false]
        rw [ih (fun i hi => hj i (by simp [hi]))]
        simp [hab]
      · have : (((at' a j : Nat) : Int) == ((at' b j : Nat) : Int)) = false := by rw [beq_eq_false_iff_ne]; omega
        rw [this]
        simp [hab]
  rw [key _ (fun i hi => by simpa using hi)]
  congr 1
  rw [decide_eq_decide]
  constructor
  · intro h
    apply List.ext_getElem (by rw [ha, hb])
    intro i h1 h2
    have := h i (by simp; omega)
    simpa [at', List.getElem?_eq_getElem h1, List.getElem?_eq_getElem h2] using this
  · intro h
    subst h
    simp
end
theorem wpList_loadBg {ops : Array Oper} {rest : List Oper} {o : Oper} {a : Act} {w : World} {Q : Exit → Act → World → Prop} (hw : Region.wanted o (yielded ops a.tmps) = true) (ty : TypeId) (x : Operand) (ho : o.op = .load ty x)
    (g : Nat) (hx : a.eval x = .pointer (some ⟨g, 0, none⟩)) {t : TypeId} {l : List Nat} (hg : Bk w g t l) {m : Nat} {e : TypeId}
    (hu : Try.prog.underlying ty = some (.array m e)) (hi : (Try.prog.info? ty).map (·.size) = some l.length)
    (h : wpList Try.prog ops Q rest (a.put o.dst (.agg (bts l))) w) : wpList Try.prog ops Q (o :: rest) a w := by
  refine wpList_step (fun K hK => ?_)
  rw [if_pos hw]
  exact wp_loadB ty x ho g hx hg hu hi (hK _ _ h)
theorem AbW.call {w0 w w' : World} (h : AbW w0 w) (hb : Below w.heap.size w w') : AbW w0 w' := Below.trans h (hb.mono (Below.size h))
theorem Bk.ab {w w' : World} {b : Nat} {t : TypeId} {l : List Nat} (h : Bk w b t l) (hb : Below w.heap.size w w') : Bk w' b t l := h.below hb h.lt

theorem range_byt (n : Nat) (h : n ≤ 256) : Byt (List.range n) := fun x hx => by have := List.mem_range.1 hx; omega
end Go.Proofs.Ytobjdhpdljiijaa
