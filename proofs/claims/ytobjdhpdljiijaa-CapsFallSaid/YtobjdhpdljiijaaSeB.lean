/-
  WALKS: seal.numbers, HeadOf, NonceOf, AadOf (P10.1).
  WALKS: seal.may, seal.Seal, seal.Open (P10.2).
-/
import Derived.Test.YtobjdhpdljiijaaWid3
import Derived.Test.YtobjdhpdljiijaaGcL
import Derived.Lib.SmallJoins
namespace Go.Proofs.Ytobjdhpdljiijaa
open Go.RowKit
set_option linter.unusedVariables false

/-- a label -/
structure Lb where
  ten : Nat
  k : Nat
  lv : Nat
  pg : Nat
  cm : Nat
  gn : Nat
  deriving DecidableEq
structure Lb.Ok (l : Lb) : Prop where
  ten : l.ten < 4294967296
  k : l.k < 256
  lv : l.lv < 256
  pg : l.pg < 4294967296
  cm : l.cm < 18446744073709551616
  gn : l.gn < 65536
def lab (l : Lb) : Array Value := #[.int .u32 (l.ten : Int), .int .u8 (l.k : Int), .int .u8 (l.lv : Int), .int .u32 (l.pg : Int), .int .u64 (l.cm : Int), .int .u16 (l.gn : Int)]
/-- numbers in bytes, one behind the other -/
def flatN : List (Nat × Nat) → List Nat
  | [] => []
  | p :: ps => digB p.1 p.2 ++ flatN ps
theorem flatN_snoc (ps : List (Nat × Nat)) (p : Nat × Nat) : flatN (ps ++ [p]) = flatN ps ++ digB p.1 p.2 := by
  induction ps with
  | nil => simp [flatN]
  | cons q ps ih => rw [List.cons_append, flatN, ih, flatN, List.append_assoc]
def rowN (ps : List (Nat × Nat)) : Array Value := (ps.flatMap fun p => [Value.int .u64 (p.1 : Int), Value.int .u64 (p.2 : Int)]).toArray
theorem rowN_at : ∀ (ps : List (Nat × Nat)) (j : Nat) (p : Nat × Nat), ps[j]? = some p → (ps.flatMap fun p => [Value.int .u64 (p.1 : Int), Value.int .u64 (p.2 : Int)])[2 * j]? = some (.int .u64 (p.1 : Int)) ∧ (ps.flatMap fun p => [Value.int .u64 (p.1 : Int), Value.int .u64 (p.2 : Int)])[2 * j + 1]? = some (.int .u64 (p.2 : Int))
  | [], j, p, h => by simp at h
  | q :: ps, 0, p, h => by
    simp only [List.getElem?_cons_zero, Option.some.injEq] at h
    subst h
    exact ⟨rfl, rfl⟩
  | q :: ps, j + 1, p, h => by
    have := rowN_at ps j p (by simpa using h)
    rw [show 2 * (j + 1) = 2 * j + 1 + 1 by omega]
    exact this
def NumB (w : World) (g : Nat) (ps : List (Nat × Nat)) : Prop := w.heap[g]? = some (.cells (rowN ps) 28 (0, 0))
theorem NumB.lt {w : World} {g : Nat} {ps : List (Nat × Nat)} (h : NumB w g ps) : g < w.heap.size := lt_of_block h
theorem NumB.below {w w' : World} {g : Nat} {ps : List (Nat × Nat)} (h : NumB w g ps) (hb : Below w.heap.size w w') : NumB w' g ps := (hb.block g h.lt).trans h
theorem NumB.at {w : World} {g : Nat} {ps : List (Nat × Nat)} (h : NumB w g ps) {j : Nat} {p : Nat × Nat} (hj : ps[j]? = some p) : w.cell? ⟨g, 2 * j, none⟩ = some (.int .u64 (p.1 : Int)) ∧ w.cell? ⟨g, 2 * j + 1, none⟩ = some (.int .u64 (p.2 : Int)) := by
  have := rowN_at ps j p hj
  rw [cell_of_row w g _ _ _ (0, 0) h, cell_of_row w g _ _ _ (0, 0) h]
  simpa [rowN] using this
def NumOk (ps : List (Nat × Nat)) : Prop := ∀ p ∈ ps, p.1 < 18446744073709551616 ∧ 1 ≤ p.2 ∧ p.2 ≤ 8 ∧ p.1 < 256 ^ p.2
theorem flatN_le : ∀ {ps : List (Nat × Nat)}, NumOk ps → (flatN ps).length ≤ 8 * ps.length
  | [], _ => Nat.le_refl _
  | p :: ps, h => by
    have h1 := flatN_le (ps := ps) (fun q hq => h q (by simp [hq]))
    have h2 := h p (by simp)
    rw [flatN, List.length_append, digB_len, List.length_cons]
    omega
def headN (l : Lb) : List (Nat × Nat) := [(l.k, 1), (l.lv, 1), (l.gn, 2), (l.cm, 8)]
def headL (l : Lb) : List Nat := [67, 72, 84, 49] ++ flatN (headN l)
def nonceN (l : Lb) : List (Nat × Nat) := [(l.pg, 4), (l.cm, 8)]
def nonceL (l : Lb) : List Nat := flatN (nonceN l)
def aadN (l : Lb) : List (Nat × Nat) := [(l.ten, 4), (l.k, 1), (l.lv, 1), (l.gn, 2)]
def aadL (l : Lb) : List Nat := flatN (aadN l)
theorem Lb.Ok.head {l : Lb} (h : l.Ok) : NumOk (headN l) := by
  have h1 := h.k; have h2 := h.lv; have h3 := h.gn; have h4 := h.cm
  intro p hp
  simp only [headN, List.mem_cons, List.not_mem_nil, or_false] at hp
  rcases hp with rfl | rfl | rfl | rfl <;> refine ⟨?_, ?_, ?_, ?_⟩ <;> simp only <;> omega
theorem Lb.Ok.nonce {l : Lb} (h : l.Ok) : NumOk (nonceN l) := by
  have h1 := h.pg; have h4 := h.cm
  intro p hp
  simp only [nonceN, List.mem_cons, List.not_mem_nil, or_false] at hp
  rcases hp with rfl | rfl <;> refine ⟨?_, ?_, ?_, ?_⟩ <;> simp only <;> omega
theorem Lb.Ok.aad {l : Lb} (h : l.Ok) : NumOk (aadN l) := by
  have h1 := h.k; have h2 := h.lv; have h3 := h.gn; have h4 := h.ten
  intro p hp
  simp only [aadN, List.mem_cons, List.not_mem_nil, or_false] at hp
  rcases hp with rfl | rfl | rfl | rfl <;> refine ⟨?_, ?_, ?_, ?_⟩ <;> simp only <;> omega
theorem headL_len (l : Lb) : (headL l).length = 16 := by simp [headL, headN, flatN, digB_len]
theorem nonceL_len (l : Lb) : (nonceL l).length = 12 := by simp [nonceL, nonceN, flatN, digB_len]
theorem aadL_len (l : Lb) : (aadL l).length = 8 := by simp [aadL, aadN, flatN, digB_len]
section
variable {w w' : World} {B : Nat} {l : Lb}
end
theorem wide_u64 (n : Nat) (h : n < 18446744073709551616) : IntKind.u64.wrap (n : Int) = (n : Int) := wrap_u64' (n := n) (by omega) _ (by omega) (by omega)
theorem NumB.newAt (w : World) (ps : List (Nat × Nat)) {n : Nat} (h : n = w.heap.size) : NumB (w.alloc (.cells (rowN ps) 28)) n ps := by subst h; exact heap_alloc_new w _
theorem isB_marked {w : World} {g n : Nat} {t : TypeId} {fr : Nat × Nat} {l : List Nat} (h : w.heap[g]? = some (.cells (bts l) t fr)) (hb : Byt l) (hl : l.length = n) (hn : n ≤ 9223372036854775807) : IsB w (some ⟨g, 0, none⟩) n n l := by
  refine ⟨⟨by simp [hl], Nat.le_refl _, hn, byt_wf hb, .inr ⟨⟨g, 0, none⟩, rfl, fun _ => lt_of_block h, fun i hi => ?_⟩⟩, hb⟩
  have hc : w.cell? ⟨g, i, none⟩ = (bts l)[i]? := Joins.cell_of_block h i
  have e : (⟨g, 0, none⟩ : Addr).add i = ⟨g, i, none⟩ := by rw [Addr.add_mid, Nat.zero_add]
  rw [e, hc]
  simp [bts, List.getD_eq_getElem?_getD, List.getElem?_eq_getElem (show i < l.length by omega)]
end Go.Proofs.Ytobjdhpdljiijaa

namespace Go.Proofs.Ytobjdhpdljiijaa
open Go.RowKit
set_option linter.unusedVariables false

/-- a key and a kind that may be -/
def SOk (key : List Nat) (l : Lb) : Prop := KeyOk key ∧ 1 ≤ l.k ∧ l.k ≤ 4
instance (key : List Nat) (l : Lb) : Decidable (SOk key l) := by unfold SOk KeyOk; infer_instance
/-- with the refusals: 2: ErrArg -/
def sealP (key : List Nat) (l : Lb) (text : List Nat) : List Nat × Nat :=
  if SOk key l ∧ text.length = 224 then (headL l ++ sealA key (nonceL l) (aadL l) text, 0) else ([], 2)
/-- .. 100: ErrHead -/
def openP (key : List Nat) (l : Lb) (s : List Nat) : List Nat × Nat :=
  if SOk key l ∧ s.length = 256 then if s.take 16 = headL l then openS key (nonceL l) (aadL l) (s.drop 16) else ([], 100) else ([], 2)
theorem kind_dec (k : Nat) : decide (((k : Nat) : Int) ≥ 1) = decide (1 ≤ k) ∧ decide (((k : Nat) : Int) ≤ 4) = decide (k ≤ 4) := by
  constructor <;> (rw [decide_eq_decide]; omega)
end Go.Proofs.Ytobjdhpdljiijaa
