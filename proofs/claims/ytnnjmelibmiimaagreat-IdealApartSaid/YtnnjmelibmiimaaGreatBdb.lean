/-
  A REGION THAT DRAWS ITS ORDER: quiet operations over a class of worlds (calls that draw, or that only make memory), then a tail that waits for all of them: walked once. (Over Derived/StillTail.lean's Bools and Derived/Deep/Quiet.lean's class.)
  A REGION THAT DRAWS ITS ORDER, whose calls make memory: the operations ahead that only read what was there are taken first, in the text's order, whatever memory the others make meanwhile.
  WALKS: the reference's Copy and Same (ref01), whatever bytes.
  BYTES OF THE CALL's OWN: slices of bytes that a call has made, as lists of numbers: append, stores, what is kept.
  'dst = append(dst, x)' AT THE END OF A REGION THAT DRAWS ITS ORDER: what was there stays, but for the room behind; loads ahead of it, of whatever slice, that one too.
  .. and of some bytes at once.
  WALKS: octet.Get and Put, the reference's Number and Of: numbers as bytes, the highest first.
  WALKS: octet.Put, the reference's Of: a number's bytes, the highest first, in memory of their own.
  WALKS: ctr.First, ctr.Next; the reference's First, Next, Opens.
-/
import Derived.Test.YtnnjmelibmiimaaGreatBda
import Derived.StillTail
import Derived.Deep.Quiet
import Derived.Deep.QuietTactic
import Derived.Deep.RegionHeld
import Derived.Laws.BytesArg
import Derived.Laws.MakeOwn
import Derived.Deep.DeepCutAuto
import Derived.Outline
import Derived.Deep.RegionHeld3
import Derived.ChangeKeysEq
import Derived.Laws.StructEq
import Derived.WideShapes
import Derived.BigRegion
import Derived.ArgAppend
namespace Go.Proofs.YtnnjmelibmiimaaGreat
open Go.RowKit
set_option linter.unusedVariables false

section
variable {P : Program} {ops : Array Oper} {md : Region.Mode} {C : World → Prop}

end

end Go.Proofs.YtnnjmelibmiimaaGreat

namespace Go.Proofs.YtnnjmelibmiimaaGreat
open Go.RowKit
set_option linter.unusedVariables false

section
variable {P : Program} {ops : Array Oper} {S : World → Prop} {Q : Exit → Act → World → Prop}
section
variable {C : World → Prop}
end
/-- .. with what lies above a world -/
def AbW (w0 : World) : World → Prop := Below w0.heap.size w0
theorem AbW.refl (w : World) : AbW w w := Below.refl _ _
end

end Go.Proofs.YtnnjmelibmiimaaGreat

namespace Go.Proofs.YtnnjmelibmiimaaGreat
open Go.RowKit
set_option linter.unusedVariables false

def zeros (n : Nat) : List Nat := List.replicate n 0
def strOf (l : List Nat) : ByteArray := ⟨(l.map UInt8.ofNat).toArray⟩
theorem strOf_inj {a b : List Nat} (ha : Byt a) (hb : Byt b) : strOf a = strOf b ↔ a = b := by
  refine ⟨fun h => ?_, fun h => by rw [h]⟩
  have h1 : a.map UInt8.ofNat = b.map UInt8.ofNat := by
    have := congrArg (fun s : ByteArray => s.data.toList) h
    simpa [strOf] using this
  clear h
  induction a generalizing b with
  | nil => cases b with
    | nil => rfl
    | cons y ys => simp at h1
  | cons x xs ih =>
    cases b with
    | nil => simp at h1
    | cons y ys =>
      simp only [List.map_cons, List.cons.injEq] at h1
      have hx := ha x (by simp)
      have hy := hb y (by simp)
      have e : x = y := by
        have := congrArg UInt8.toNat h1.1
        simp at this
        omega
      rw [e, ih (fun z hz => ha z (by simp [hz])) (fun z hz => hb z (by simp [hz])) h1.2]
section
variable {P : Program}
theorem run_str {w : World} {A : Option Addr} {n c : Nat} {l : List Nat} (h : IsB w A n c l) (src e dst : TypeId) (hs : P.underlying src = some (.slice e)) (he : P.underlying e = some (.int .u8)) (hd : P.underlying dst = some .string) :
    (convert src dst (.slice A n c)).run P w = .ok (.string (strOf l)) w := by
  rw [run_convert_bytes_string w src dst e _ n c hs he hd]
  have hl := h.len
  by_cases h0 : A = none
  · subst h0
    have : n = 0 := by
      by_cases hn : 0 < n
      · obtain ⟨x, e, _⟩ := h.cell hn
        cases e
      · omega
    subst this
    obtain rfl : l = [] := List.eq_nil_of_length_eq_zero hl
    simp [Conv.bytesToString, strOf, ByteArray.empty, ByteArray.emptyWithCapacity]
    rfl
  · obtain ⟨x, rfl⟩ : ∃ x, A = some x := by cases A with
      | none => exact absurd rfl h0
      | some x => exact ⟨x, rfl⟩
    have hlc : (loadCells x n).run P w = .ok ((l.map fun m : Nat => (m : Int)).map (Value.int .u8)).toArray w := by
      have := run_loadCells_list (P := P) w x ((l.map fun m : Nat => (m : Int)).map (Value.int .u8)) (fun j v hj => by
        have hjl : j < n := by
          rcases Nat.lt_or_ge j n with h' | h'
          · exact h'
          · rw [List.getElem?_eq_none (by simp; omega)] at hj; cases hj
        obtain ⟨y, e, _, hy⟩ := h.cell (by omega)
        injection e with e
        rw [e, hy j hjl]
        simp only [List.getElem?_map, List.getElem?_eq_getElem (show j < l.length by omega), Option.map_some] at hj
        simpa [at', List.getElem?_eq_getElem (show j < l.length by omega)] using hj)
      simpa [hl] using this
    rw [run_bytesToString w x n c _ hlc, foldl_push_bytes]
    simp [strOf, ByteArray.empty, ByteArray.emptyWithCapacity, Function.comp_def]
    rfl
end

theorem infoU8 : (Tryz.prog.info? 5).map (fun i => (i.zero, i.size, i.bytes)) = some (some (.int .u8 0), 1, 1) := by kernel_rfl
/-- a block of bytes, read as a slice from its head on -/
theorem Bk.isB {w : World} {g : Nat} {t : TypeId} {l : List Nat} (h : Bk w g t l) (hb : Byt l) (n c : Nat) (hn : n ≤ l.length) (hc : n ≤ c) (hm : c ≤ 9223372036854775807) : IsB w (some ⟨g, 0, none⟩) n c (l.take n) := by
  refine ⟨⟨by simp; omega, hc, hm, ?_, .inr ⟨_, rfl, fun _ => h.lt, fun i hi => ?_⟩⟩, fun x hx => hb x (List.mem_of_mem_take hx)⟩
  · intro z hz
    obtain ⟨x, hx, rfl⟩ := List.mem_map.1 hz
    have := hb x (List.mem_of_mem_take hx)
    simp only [Lit.wf, Bool.and_eq_true, decide_eq_true_eq]
    have e1 : IntKind.u8.min = 0 := rfl
    have e2 : IntKind.u8.max = 255 := rfl
    omega
  · have e1 : (Addr.mk g 0 none).add i = ⟨g, i, none⟩ := by rw [Addr.add_mid, Nat.zero_add]
    rw [e1, h.cell (by omega)]
    simp [List.getD, hi, List.getElem?_eq_getElem (show i < l.length by omega)]

end Go.Proofs.YtnnjmelibmiimaaGreat

namespace Go.Proofs.YtnnjmelibmiimaaGreat
open Go.RowKit
set_option linter.unusedVariables false

def bvals (l : List Nat) : List Value := l.map (fun n : Nat => Value.int .u8 (n : Int))
theorem bvals_ints (l : List Nat) : bvals l = (l.map (fun n : Nat => (n : Int))).map (Value.int .u8) := by simp [bvals]
theorem byt_wf {l : List Nat} (h : Byt l) : ∀ z ∈ l.map (fun n : Nat => (n : Int)), (Lit.int .u8 z).wf = true := by
  intro z hz
  obtain ⟨x, hx, rfl⟩ := List.mem_map.1 hz
  have := h x hx
  simp only [Lit.wf, Bool.and_eq_true, decide_eq_true_eq]
  have e1 : IntKind.u8.min = 0 := rfl
  have e2 : IntKind.u8.max = 255 := rfl
  omega
/-- bytes of the call's own (from block B on) -/
structure OwB (w : World) (B : Nat) (v : Value) (l : List Nat) : Prop where
  own : w.ownsRow B 5 1 v l.length (bvals l)
  byt : Byt l
section
variable {w w' : World} {B : Nat} {v : Value} {l : List Nat}
theorem OwB.nil (w : World) (B : Nat) : OwB w B (.slice none 0 0) [] := ⟨⟨rfl, .inl ⟨rfl, rfl⟩⟩, fun x hx => by cases hx⟩
theorem OwB.alloc (h : OwB w B v l) (o : Obj) : OwB (w.alloc o) B v l := ⟨h.own.alloc o, h.byt⟩
theorem OwB.drew (h : OwB w B v l) : OwB w.drew B v l := ⟨h.own, h.byt⟩
theorem OwB.drewN (h : OwB w B v l) (n : Nat) : OwB (w.drewN n) B v l := ⟨h.own, h.byt⟩
theorem OwB.kept (h : OwB w B v l) {row : Option Nat} (hg : w.grownBy w' row) (hne : v.ownBlock = none ∨ v.ownBlock ≠ row) : OwB w' B v l := ⟨h.own.kept hg hne, h.byt⟩
theorem OwB.lt (h : OwB w B v l) : ∀ g, v.ownBlock = some g → B ≤ g ∧ g < w.heap.size := h.own.lt
/-- nothing turns below C: what lies there stays -/
theorem OwB.below {C : Nat} (h : OwB w B v l) (hb : Below C w w') (hC : ∀ g, v.ownBlock = some g → g < C) : OwB w' B v l := by
  refine ⟨⟨h.own.1, ?_⟩, h.byt⟩
  rcases h.own.2 with hn | ⟨g, cap, cur, rfl, hb', hgg, rest⟩
  · exact .inl hn
  · exact .inr ⟨g, cap, cur, rfl, hb', (hb.block g (hC g rfl)).trans hgg, rest⟩
theorem OwB.ab (h : OwB w B v l) (hb : Below w.heap.size w w') : OwB w' B v l := h.below hb fun g hg => (h.lt g hg).2
theorem OwB.form (h : OwB w B v l) (hl : 0 < l.length) : ∃ g cap, v = .slice (some ⟨g, 0, none⟩) l.length cap ∧ B ≤ g ∧ g < w.heap.size ∧ l.length ≤ cap ∧ cap ≤ 9223372036854775807 ∧ ∀ i, i < l.length → w.cell? ⟨g, i, none⟩ = some (.int .u8 (at' l i : Nat)) := by
  have ho := h.own
  rcases h.own.2 with ⟨_, h0⟩ | ⟨g, cap, cur, rfl, hb', hgg, hnc, hcm, hcs, ht⟩
  · omega
  · refine ⟨g, cap, rfl, hb', lt_of_block hgg, hnc, hcm, fun i hi => ?_⟩
    rw [ho.cellAt i (by omega)]
    simp [bvals, at', List.getElem?_eq_getElem hi]
theorem OwB.shape (h : OwB w B v l) : ∃ A cap, v = .slice A l.length cap ∧ l.length ≤ cap ∧ cap ≤ 9223372036854775807 := by
  rcases h.own.2 with ⟨rfl, h0⟩ | ⟨g, cap, cur, rfl, hb', hgg, hnc, hcm, hcs, ht⟩
  · exact ⟨none, 0, by rw [h0], by omega, by omega⟩
  · exact ⟨_, cap, rfl, hnc, hcm⟩
theorem OwB.isB {A : Option Addr} {n c : Nat} (h : OwB w B (.slice A n c) l) (hn : l.length = n) : IsB w A n c l := by
  have ho := h.own
  rw [hn, bvals_ints] at ho
  exact ⟨isRow_own ho (byt_wf h.byt), h.byt⟩
theorem OwB.rw {g n c : Nat} (h : OwB w B (.slice (some ⟨g, 0, none⟩) n c) l) : ∀ i, i < l.length → w.cell? ⟨g, i, none⟩ = some (.int .u8 (at' l i : Nat)) := by
  by_cases hl : 0 < l.length
  · obtain ⟨g', cap, e, _, _, _, _, hc⟩ := h.form hl
    simp only [Value.slice.injEq, Option.some.injEq, Addr.mk.injEq, and_true] at e
    rw [e.1]
    exact hc
  · intro i hi; omega
theorem OwB.store {g n c : Nat} (h : OwB w B (.slice (some ⟨g, 0, none⟩) n c) l) (hn : l.length = n) {k x : Nat} (hx : x < 256) : OwB (w.setCell ⟨g, k, none⟩ (.int .u8 (x : Int))) B (.slice (some ⟨g, 0, none⟩) n c) (l.set k x) := by
  have ho := h.own
  rw [hn] at ho
  have := (ho.stored k (.int .u8 (x : Int))).1
  refine ⟨?_, fun y hy => ?_⟩
  · rw [List.length_set, hn]
    have e : bvals (l.set k x) = (bvals l).set k (.int .u8 (x : Int)) := by simp [bvals, List.map_set]
    rw [e]
    exact this
  · rcases List.mem_or_eq_of_mem_set hy with hy | rfl
    · exact h.byt y hy
    · exact hx
theorem OwB.free {g n c : Nat} (h : OwB w B (.slice (some ⟨g, 0, none⟩) n c) l) (hn : l.length = n) (k : Nat) : w.frozen? ⟨g, k, none⟩ = false := by
  have ho := h.own
  rw [hn] at ho
  exact ho.frozenAt k
/-- a block of bytes, owned -/
theorem OwB.ofBk {g n c : Nat} {l' : List Nat} (h : Bk w g 5 l') (hB : B ≤ g) (hn : l.length = n) (hnc : n ≤ c) (hc : l'.length = c) (hcm : c ≤ 9223372036854775807) (hl : l'.take n = l) (hb : Byt l) : OwB w B (.slice (some ⟨g, 0, none⟩) n c) l := by
  refine ⟨⟨by simp [bvals], .inr ⟨g, c, bts l', by rw [hn], hB, h, by omega, hcm, by rw [bts_size]; omega, ?_⟩⟩, hb⟩
  rw [bts_list, Nat.mul_one, hn, ← List.map_take, hl]
  rfl
theorem IsB.ab {A : Option Addr} {n c : Nat} (h : IsB w A n c l) (hb : Below w.heap.size w w') : IsB w' A n c l := h.below hb
theorem IsB.drew {A : Option Addr} {n c : Nat} (h : IsB w A n c l) : IsB w.drew A n c l := ⟨h.1.drew, h.2⟩
theorem IsB.drewN {A : Option Addr} {n c : Nat} (h : IsB w A n c l) (m : Nat) : IsB (w.drewN m) A n c l := ⟨h.1.drewN m, h.2⟩
theorem IsB.alloc {A : Option Addr} {n c : Nat} (h : IsB w A n c l) (o : Obj) : IsB (w.alloc o) A n c l := ⟨h.1.alloc o, h.2⟩
/-- what is read below B stays where only blocks from B on turn -/
theorem IsB.far {C : Nat} {A : Option Addr} {n c : Nat} (h : IsB w A n c l) (hb : Below C w w') (hC : ∀ x, A = some x → x.block < C) (hs : w.heap.size ≤ w'.heap.size) : IsB w' A n c l :=
  ⟨h.1.keep hs fun x i e hi => hb.cell (by rw [add_block]; exact hC x e), h.2⟩
end
theorem byt_app {a b : List Nat} (ha : Byt a) (hb : Byt b) : Byt (a ++ b) := fun x hx => by
  rcases List.mem_append.1 hx with h | h
  · exact ha x h
  · exact hb x h

section
variable {P : Program} (w : World)
theorem run_appB {B : Nat} {t ty : TypeId} {i : TypeInfo} {z : Value} (ht : P.underlying t = some (.slice 5)) (hi : P.info? 5 = some i) (hz : i.zero = some z)
    (hsize : i.size = 1) (hby : i.bytes = 1) (hzs : z.cells.size = 1)
    {v : Value} {l : List Nat} (hown : OwB w B v l) {A : Option Addr} {m c : Nat} {ys : List Nat} (hr : IsB w A m c ys) (hm : l.length + m ≤ 140737488355328) (hbase : B ≤ w.heap.size) :
    ∃ v' w', (Builtin.append_ #[t, t] ty #[v, .slice A m c]).run P w = .ok v' w' ∧ OwB w' B v' (l ++ ys) ∧ Below B w w' ∧ w.grownBy w' v.ownBlock ∧ (v'.ownBlock = v.ownBlock ∨ v'.ownBlock = some w.heap.size) := by
  have ho := hown.own
  rw [bvals_ints] at ho
  have ho2 : w.ownsRow B 5 1 v (l.map (fun n : Nat => (n : Int))).length ((l.map (fun n : Nat => (n : Int))).map (Value.int .u8)) := by rw [List.length_map]; exact ho
  obtain ⟨v', w', h1, h2, h3, h4⟩ := run_app (P := P) w (ty := ty) (bytes := 1) ht hi hz hsize hby hzs ho2 hr.1 (by rw [List.length_map]; simp only [maxLen]; omega) (by rw [List.length_map]; omega) hbase
  refine ⟨v', w', h1, ⟨?_, byt_app hown.byt hr.2⟩, below_app ho hbase h3, h3, h4⟩
  rw [bvals_ints, List.map_append, List.length_append]
  have : (List.map (fun n : Nat => (n : Int)) l ++ List.map (fun x : Nat => (x : Int)) ys).length = l.length + ys.length := by simp
  rw [this] at h2
  exact h2
theorem wpList_appB {ops : Array Oper} {rest : List Oper} {o : Oper} {a : Act} {Q : Exit → Act → World → Prop} (hgd : o.guard = none) (s x : Operand) {t : TypeId}
    (ho : o.op = .call { callee := .builtin .append, args := #[s, x], argTypes := #[t, t] })
    {B : Nat} {i : TypeInfo} {z : Value} (ht : P.underlying t = some (.slice 5)) (hi : P.info? 5 = some i) (hz : i.zero = some z)
    (hsize : i.size = 1) (hby : i.bytes = 1) (hzs : z.cells.size = 1)
    {v : Value} {l : List Nat} (hown : OwB w B v l) (hs : a.eval s = v)
    {A : Option Addr} {m c : Nat} {ys : List Nat} (hr : IsB w A m c ys) (hx : a.eval x = .slice A m c)
    (hm : l.length + m ≤ 140737488355328) (hbase : B ≤ w.heap.size)
    (h : ∀ v' w', OwB w' B v' (l ++ ys) → Below B w w' → w.grownBy w' v.ownBlock → (v'.ownBlock = v.ownBlock ∨ v'.ownBlock = some w.heap.size) → wpList P ops Q rest (a.put o.dst v') w') : wpList P ops Q (o :: rest) a w := by
  obtain ⟨v', w', hrun, h2, h3, h4, h5⟩ := run_appB (P := P) w (ty := o.type) ht hi hz hsize hby hzs hown hr hm hbase
  refine wpList_plain hgd fun K hK => ?_
  unfold Oper.wp execOp
  simp only [ho, resolve, invoke, builtin, Sem.run_bind, Sem.run_pure, Result.andThen_ok, List.map_toArray, List.map_cons, List.map_nil, hs, hx, hrun]
  exact hK _ _ (h v' w' h2 h3 h4 h5)
end
end Go.Proofs.YtnnjmelibmiimaaGreat

namespace Go.Proofs.YtnnjmelibmiimaaGreat
open Go.RowKit
set_option linter.unusedVariables false

/-- the cells of a world that are there still: all but the room behind the n elements of v -/
def KeepA (w0 : World) (v : Value) (n : Nat) (w' : World) : Prop := ∀ p u, w0.cell? p = some u → (∀ g, v.ownBlock = some g → p.block = g → p.spot = none ∧ p.off < n) → w'.cell? p = some u
theorem KeepA.refl (w : World) (v : Value) (n : Nat) : KeepA w v n w := fun p u h _ => h
theorem KeepA.alloc {w0 w' : World} {v : Value} {n : Nat} (h : KeepA w0 v n w') (o : Obj) : KeepA w0 v n (w'.alloc o) := fun p u hp hq => by
  have := h p u hp hq
  rw [World.cell?_alloc_some _ _ _ (by rw [this]; rfl)]
  exact this
/-- v does not lie in block g -/
def ApartB (v : Value) (g : Nat) : Prop := ∀ b, v.ownBlock = some b → b ≠ g
theorem ApartB.nil (g : Nat) : ApartB (.slice none 0 0) g := fun b h => by cases h
theorem ApartB.next {v v' : Value} {g n : Nat} (h : ApartB v g) (hv : v'.ownBlock = v.ownBlock ∨ v'.ownBlock = some n) (hg : g < n) : ApartB v' g := fun b hb => by
  rcases hv with e | e
  · exact h b (by rw [← e]; exact hb)
  · rw [e] at hb
    injection hb with hb
    omega
theorem ApartB.ne {v : Value} {g : Nat} (h : ApartB v g) : some g ≠ v.ownBlock := fun e => h g e.symm rfl
section
variable {P : Program} (w : World)
end
end Go.Proofs.YtnnjmelibmiimaaGreat

namespace Go.Proofs.YtnnjmelibmiimaaGreat
open Go.RowKit
set_option linter.unusedVariables false
section
variable {P : Program} (w : World)
end
end Go.Proofs.YtnnjmelibmiimaaGreat

namespace Go.Proofs.YtnnjmelibmiimaaGreat
open Go.RowKit
set_option linter.unusedVariables false

theorem wrap_u64' {n : Nat} (hn : n < 2 ^ 64) (z : Int) (h0 : 0 ≤ z) (h : z ≤ n) : IntKind.u64.wrap z = z := by
  show z % 18446744073709551616 = z
  omega
theorem or_u64 (a b : Nat) (ha : a < 2 ^ 64) (hb : b < 2 ^ 64) : bits .or .u64 (a : Int) (b : Int) = ((a ||| b : Nat) : Int) := by
  have h : a ||| b < 2 ^ 64 := Nat.or_lt_two_pow ha hb
  show IntKind.u64.wrap ((BitVec.ofInt 64 (a : Int) ||| BitVec.ofInt 64 (b : Int)).toNat : Int) = _
  rw [BitVec.toNat_or, BitVec.ofInt_natCast, BitVec.ofInt_natCast, BitVec.toNat_ofNat, BitVec.toNat_ofNat, Nat.mod_eq_of_lt ha, Nat.mod_eq_of_lt hb]
  exact wrap_u64' h _ (Int.natCast_nonneg _) (Int.le_refl _)
end Go.Proofs.YtnnjmelibmiimaaGreat

namespace Go.Proofs.YtnnjmelibmiimaaGreat
open Go.RowKit
set_option linter.unusedVariables false

end Go.Proofs.YtnnjmelibmiimaaGreat

namespace Go.Proofs.YtnnjmelibmiimaaGreat
open Go.RowKit
set_option linter.unusedVariables false

end Go.Proofs.YtnnjmelibmiimaaGreat
namespace Go.Proofs.YtnnjmelibmiimaaGreat
open Go.RowKit
set_option linter.unusedVariables false

theorem addr_add (x : Addr) (m i : Nat) : (x.add m).add i = x.add (m + i) := by
  unfold Addr.add
  by_cases h1 : m = 0 <;> by_cases h2 : i = 0 <;> simp [h1, h2, Nat.add_assoc]
theorem IsB.some {w : World} {x : Addr} {n c : Nat} {l : List Nat} (h : IsB w (some x) n c l) (i : Nat) (hi : i < n) : w.cell? (x.add i) = .some (.int .u8 (at' l i : Nat)) := by
  obtain ⟨y, e, _, hy⟩ := h.cell (by omega)
  injection e with e
  rw [e]
  exact hy i hi
/-- m bytes of it, from o on, as cells -/
theorem IsB.cells {w : World} {x : Addr} {n c : Nat} {l : List Nat} (h : IsB w (.some x) n c l) (o m : Nat) (hm : o + m ≤ n) : ∀ (j : Nat) (v : Value), (((l.drop o).take m).map (fun n : Nat => Value.int .u8 (n : Int)))[j]? = .some v → w.cell? ((x.add o).add j) = .some v := by
  intro j v hv
  have hl := h.len
  rw [List.getElem?_map] at hv
  have hj : j < m := by
    by_cases hj : j < m
    · exact hj
    · rw [List.getElem?_take, if_neg hj] at hv; simp at hv
  rw [addr_add, h.some (o + j) (by omega)]
  rw [List.getElem?_take, if_pos hj, List.getElem?_drop, List.getElem?_eq_getElem (by omega)] at hv
  simp only [at', List.getElem?_eq_getElem (show o + j < l.length by omega)]
  simpa using hv
theorem Bk.there {w : World} {b : Nat} {t : TypeId} {l : List Nat} (h : Bk w b t l) (o m : Nat) (hm : o + m ≤ l.length) : w.there b o m := fun j hj =>
  ⟨by rw [h.cell (by omega)]; rfl, h.free _⟩
end Go.Proofs.YtnnjmelibmiimaaGreat

namespace Go.Proofs.YtnnjmelibmiimaaGreat
open Go.RowKit
set_option linter.unusedVariables false

end Go.Proofs.YtnnjmelibmiimaaGreat
namespace Go.Proofs.YtnnjmelibmiimaaGreat
open Go.RowKit
set_option linter.unusedVariables false

/-! the rounds -/
/-! memory -/
end Go.Proofs.YtnnjmelibmiimaaGreat

namespace Go.Proofs.YtnnjmelibmiimaaGreat
open Go.RowKit
set_option linter.unusedVariables false

/-- bytes from a block's head on -/
structure Rw (w : World) (g : Nat) (W : List Nat) : Prop where
  lt : g < w.heap.size
  cell : ∀ i, i < W.length → w.cell? ⟨g, i, none⟩ = some (.int .u8 (at' W i : Nat))
theorem Rw.below {w w' : World} {g B : Nat} {W : List Nat} (h : Rw w g W) (hb : Below B w w') (hB : g < B) (hs : w.heap.size ≤ w'.heap.size := by exact Below.size (by assumption)) : Rw w' g W :=
  ⟨Nat.lt_of_lt_of_le h.lt hs, fun i hi => (hb.cell (p := ⟨g, i, none⟩) hB).trans (h.cell i hi)⟩
theorem Rw.ab {w w' : World} {g : Nat} {W : List Nat} (h : Rw w g W) (hb : Below w.heap.size w w') : Rw w' g W :=
  ⟨Nat.lt_of_lt_of_le h.lt hb.size, fun i hi => (hb.cell (p := ⟨g, i, none⟩) h.lt).trans (h.cell i hi)⟩

end Go.Proofs.YtnnjmelibmiimaaGreat
namespace Go.Proofs.YtnnjmelibmiimaaGreat
open Go.RowKit
set_option linter.unusedVariables false

theorem Byt.take {l : List Nat} (h : Byt l) (n : Nat) : Byt (l.take n) := fun x hx => h x (List.mem_of_mem_take hx)
end Go.Proofs.YtnnjmelibmiimaaGreat
namespace Go.Proofs.YtnnjmelibmiimaaGreat
open Go.RowKit
set_option linter.unusedVariables false

end Go.Proofs.YtnnjmelibmiimaaGreat

namespace Go.Proofs.YtnnjmelibmiimaaGreat
open Go.RowKit
set_option linter.unusedVariables false

theorem Rw.far {w : World} {g : Nat} {W : List Nat} (h : Rw w g W) {c k : Nat} (hne : g ≠ c) (u : Value) : Rw (w.setCell ⟨c, k, none⟩ u) g W :=
  ⟨by simpa using h.lt, fun i hi => by rw [World.cell?_setCell_far _ _ _ _ (by show c ≠ g; omega)]; exact h.cell i hi⟩
section
variable {B g gW : Nat} {w0 w w1 : World} {s W : List Nat}
end
end Go.Proofs.YtnnjmelibmiimaaGreat

namespace Go.Proofs.YtnnjmelibmiimaaGreat
open Go.RowKit
set_option linter.unusedVariables false

end Go.Proofs.YtnnjmelibmiimaaGreat

namespace Go.Proofs.YtnnjmelibmiimaaGreat
open Go.RowKit
set_option linter.unusedVariables false

section
variable {P : Program}
end
theorem AbW.call {w0 w w' : World} (h : AbW w0 w) (hb : Below w.heap.size w w') : AbW w0 w' := Below.trans h (hb.mono (Below.size h))
theorem Bk.ab {w w' : World} {b : Nat} {t : TypeId} {l : List Nat} (h : Bk w b t l) (hb : Below w.heap.size w w') : Bk w' b t l := h.below hb h.lt

end Go.Proofs.YtnnjmelibmiimaaGreat
namespace Go.Proofs.YtnnjmelibmiimaaGreat
open Go.RowKit
set_option linter.unusedVariables false

/-! GF(2^128), the highest bit first -/
def gE : Nat := 0xe1 <<< 120
def mulX (y : Nat) : Nat := (y >>> 1) ^^^ (if y % 2 = 1 then gE else 0)
def pw : Nat → Nat → Nat
  | 0, y => y
  | i + 1, y => mulX (pw i y)
def xs : Nat → (Nat → Nat) → Nat
  | 0, _ => 0
  | n + 1, f => xs n f ^^^ f n
def sel (b : Bool) (x : Nat) : Nat := if b then x else 0
def bitX (x i : Nat) : Bool := x.testBit (127 - i)
/-! x to the power i -/
def ex (i : Nat) : Nat := pw i (2 ^ 127)
/-! two words -/
def N2 (h l : Nat) : Nat := 2 ^ 64 * h + l
def gW : Nat := 0xe1 <<< 56
/-! the coefficients, one by one -/
def vl (l : List Nat) : Nat := xs 255 fun i => sel (at' l i == 1) (ex i)
/-! bytes of coefficients -/
/-! numbers of bytes, bit by bit -/
/-! the reference's product: behind i rounds, and k rounds of the next one -/
def mid (x y i : Nat) : Nat := xs i fun j => sel (bitX x j) (pw j y)
/-! sums over texts -/
end Go.Proofs.YtnnjmelibmiimaaGreat
namespace Go.Proofs.YtnnjmelibmiimaaGreat
open Go.RowKit
set_option linter.unusedVariables false

def e2 (h l : Nat) : Array Value := #[.int .u64 (h : Int), .int .u64 (l : Int)]
theorem byt_take {l : List Nat} (h : Byt l) (n : Nat) : Byt (l.take n) := fun x hx => h x (List.mem_of_mem_take hx)
end Go.Proofs.YtnnjmelibmiimaaGreat
namespace Go.Proofs.YtnnjmelibmiimaaGreat
open Go.RowKit
set_option linter.unusedVariables false

def KeyOk (key : List Nat) : Prop := key.length = 16 ∨ key.length = 32
theorem KeyOk.four {key : List Nat} (h : KeyOk key) : key.length / 4 = 4 ∨ key.length / 4 = 8 := by rcases h with h | h <;> rw [h] <;> decide
theorem KeyOk.len {key : List Nat} (h : KeyOk key) : key.length = 4 * (key.length / 4) := by rcases h with h | h <;> omega
end Go.Proofs.YtnnjmelibmiimaaGreat

namespace Go.Proofs.YtnnjmelibmiimaaGreat
open Go.RowKit
set_option linter.unusedVariables false

def GOk (key nonce : List Nat) : Prop := (key.length = 16 ∨ key.length = 32) ∧ nonce.length = 12
instance (key nonce : List Nat) : Decidable (GOk key nonce) := by unfold GOk; infer_instance
end Go.Proofs.YtnnjmelibmiimaaGreat
namespace Go.Proofs.YtnnjmelibmiimaaGreat
open Go.RowKit
set_option linter.unusedVariables false

end Go.Proofs.YtnnjmelibmiimaaGreat

namespace Go.Proofs.YtnnjmelibmiimaaGreat
open Go.RowKit
set_option linter.unusedVariables false

/-- outside the blocks lo .. hi what was there is as it was -/
structure Outside (lo hi : Nat) (w w' : World) : Prop where
  os : w'.os = w.os
  tape : w'.tape = w.tape
  output : w'.output = w.output
  size : w.heap.size ≤ w'.heap.size
  block : ∀ k, k < w.heap.size → k < lo ∨ hi < k → w'.heap[k]? = w.heap[k]?
theorem Outside.below {lo hi B : Nat} {w0 w w' : World} (h : Outside lo hi w w') (hb : Below B w0 w) (hB : B ≤ lo) (hs : B ≤ w.heap.size) : Below B w0 w' :=
  hb.trans ⟨h.os, h.tape, h.output, h.size, fun k hk => h.block k (by omega) (.inl (by omega))⟩
theorem Outside.bk {lo hi b : Nat} {w w' : World} {t : TypeId} {l : List Nat} (h : Outside lo hi w w') (hk : Bk w b t l) (hb : b < lo ∨ hi < b) : Bk w' b t l := (h.block b hk.lt hb).trans hk
theorem Outside.isB {lo hi : Nat} {w w' : World} {A : Option Addr} {n c : Nat} {l : List Nat} (h : Outside lo hi w w') (hk : IsB w A n c l) (hb : ∀ x, A = some x → x.block < lo ∨ hi < x.block) : IsB w' A n c l :=
  ⟨hk.1.keep h.size fun x i e hi => World.cell?_of_block (by
    obtain ⟨y, e', hy, _⟩ := hk.1.at (by omega)
    rw [e] at e'
    injection e' with e'
    exact h.block _ (by rw [add_block, e']; exact hy) (by rw [add_block]; exact hb x e)), hk.2⟩

section
variable {w w' : World} {lo hi B b g k : Nat} {key at_ blk : List Nat}
theorem Outside.refl (lo hi : Nat) (w : World) : Outside lo hi w w := ⟨rfl, rfl, rfl, Nat.le_refl _, fun _ _ _ => rfl⟩
theorem Outside.call {w0 : World} (h : Outside lo hi w0 w) (hb : Below w.heap.size w w') : Outside lo hi w0 w' :=
  ⟨hb.os.trans h.os, hb.tape.trans h.tape, hb.output.trans h.output, Nat.le_trans h.size hb.size, fun j hj hx => (hb.block j (Nat.lt_of_lt_of_le hj h.size)).trans (h.block j hj hx)⟩
theorem Outside.row {w0 : World} (h : Outside lo hi w0 w) {c : Nat} (h1 : lo ≤ c) (h2 : c ≤ hi) (cs : Array Value) : Outside lo hi w0 (w.setRow c cs) :=
  ⟨h.os, h.tape, h.output, by simpa using h.size, fun j hj hx => (setRow_other w c j cs (by omega)).trans (h.block j hj hx)⟩
theorem Outside.setCell {w0 : World} (h : Outside lo hi w0 w) {c j : Nat} (h1 : lo ≤ c) (h2 : c ≤ hi) (u : Value) : Outside lo hi w0 (w.setCell ⟨c, j, none⟩ u) :=
  ⟨h.os, h.tape, h.output, by simpa [World.setCell] using h.size, fun i hi hx => (Below.heap_setCell w ⟨c, j, none⟩ u i (by show i ≠ c; omega)).trans (h.block i hi hx)⟩
end

/-! the stream behind i bytes -/
end Go.Proofs.YtnnjmelibmiimaaGreat

namespace Go.Proofs.YtnnjmelibmiimaaGreat
open Go.RowKit
set_option linter.unusedVariables false

/-- bytes of the call's own and an error's number are handed back; nothing that was there has turned -/
def OutB (w : World) (l : List Nat) (err : Nat) (e : Ending) (w' : World) : Prop :=
  ∃ v, e = .returned (.tuple #[v, .int .i64 (err : Int)]) ∧ OwB w' w.heap.size v l ∧ Below w.heap.size w w'
theorem OutB.refused {w w' : World} (err : Nat) (hb : Below w.heap.size w w') : OutB w [] err (.returned (.tuple #[.slice none 0 0, .int .i64 (err : Int)])) w' := ⟨_, rfl, OwB.nil _ _, hb⟩
theorem below_tr {B : Nat} {w0 w w' : World} (h : Below B w0 w) (hb : Below w.heap.size w w') (hB : B ≤ w.heap.size) : Below B w0 w' := h.trans (hb.mono hB)

end Go.Proofs.YtnnjmelibmiimaaGreat
namespace Go.Proofs.YtnnjmelibmiimaaGreat
open Go.RowKit
set_option linter.unusedVariables false

theorem eval_put_ne {d t : Tmp} (h : d ≠ t) (a : Act) (u : Value) : (a.put (some d) u).eval (.tmp t) = a.eval (.tmp t) := by
  simp only [Act.put, Act.eval, Array.getD_eq_getD_getElem?]
  rw [Array.getElem?_setIfInBounds_ne h]
section
variable {P : Program} {Q : Exit → Act → World → Prop} {w0 : World} {A : Act → Prop}
def Mono (R : Value → World → Prop) : Prop := ∀ v W W', R v W → Below W.heap.size W W' → R v W'

end
/-- one that makes noughts of a size -/
def MadeR (w0 : World) (n : Nat) (v : Value) (W : World) : Prop := ∃ g, v = .slice (some ⟨g, 0, none⟩) n n ∧ IsB W (some ⟨g, 0, none⟩) n n (zeros n) ∧ w0.heap.size ≤ g
theorem MadeR.mono (w0 : World) (n : Nat) : Mono (MadeR w0 n) := fun v W W' ⟨g, h1, h2, h3⟩ hb => ⟨g, h1, h2.ab hb, h3⟩
/-- one that hands back what is known -/
def IsR (u : Value) (v : Value) (_ : World) : Prop := v = u
theorem IsR.mono (u : Value) : Mono (IsR u) := fun v W W' h _ => h
end Go.Proofs.YtnnjmelibmiimaaGreat

namespace Go.Proofs.YtnnjmelibmiimaaGreat
open Go.RowKit
set_option linter.unusedVariables false

/-- alike but for some slots -/
def Agree (D : List Tmp) (a b : Act) : Prop := b.defers = a.defers ∧ b.tmps.size = a.tmps.size ∧ ∀ t : Nat, t ∉ D → b.tmps[t]? = a.tmps[t]?
theorem Agree.refl (D : List Tmp) (a : Act) : Agree D a a := ⟨rfl, rfl, fun _ _ => rfl⟩
theorem Agree.put {D : List Tmp} {a b : Act} (h : Agree D a b) {d : Tmp} (hd : d ∈ D) (v : Value) : Agree D a (b.put (some d) v) := by
  refine ⟨h.1, by simpa [Act.put] using h.2.1, fun t ht => ?_⟩
  have hne : d ≠ t := fun e => ht (by rw [← e]; exact hd)
  simp only [Act.put]
  rw [Array.getElem?_setIfInBounds_ne hne]
  exact h.2.2 t ht
theorem Agree.eval {D : List Tmp} {a b : Act} (h : Agree D a b) {t : Nat} (ht : t ∉ D) : b.eval (.tmp t) = a.eval (.tmp t) := by
  simp only [Act.eval, Array.getD_eq_getD_getElem?]
  rw [h.2.2 t ht]
theorem Agree.rebuild {a : Act} : ∀ (D : List Tmp) (b : Act), Agree D b a → a = D.foldl (fun x d => x.put (some d) (a.eval (.tmp d))) b
  | [], b, h => by
    cases a; cases b
    simp only [List.foldl_nil, Act.mk.injEq]
    refine ⟨?_, h.1⟩
    apply Array.ext_getElem?
    intro t
    exact h.2.2 t (by simp)
  | d :: D, b, h => by
    rw [List.foldl_cons]
    refine Agree.rebuild D _ ⟨h.1, by simpa [Act.put] using h.2.1, fun t ht => ?_⟩
    simp only [Act.put]
    by_cases e : d = t
    · subst e
      by_cases hs : d < b.tmps.size
      · rw [Array.getElem?_setIfInBounds_self_of_lt hs]
        have : d < a.tmps.size := by rw [h.2.1]; exact hs
        simp [Act.eval, this]
      · have hs' : b.tmps.size ≤ d := Nat.le_of_not_lt hs
        rw [Array.getElem?_eq_none (by rw [h.2.1]; exact hs'), Array.getElem?_eq_none (by simpa using hs')]
    · rw [Array.getElem?_setIfInBounds_ne e]
      exact h.2.2 t (by simp [ht, Ne.symm e])
section
variable {P : Program} {Q : Exit → Act → World → Prop}
/-- the block that a value points to -/
def blk : Value → Option Nat
  | .pointer (some a) => some a.block
  | .slice (some a) _ _ => some a.block
  | .map (some b) => some b
  | _ => none
/-- new memory -/
def Fresh (fr : Bool) (v : Value) (W W' : World) : Prop := fr = true → ∃ g, blk v = some g ∧ W.heap.size ≤ g ∧ g < W'.heap.size
theorem fresh_no (v : Value) (W W' : World) : Fresh false v W W' := fun h => by cases h
/-- what an operation of the head does -/
def Yields (P : Program) (o : Oper) (a : Act) (W : World) (fr : Bool) (R : Value → World → Prop) : Prop :=
  (∃ v W', (execOp a.eval o).run P W = .ok (.value v) W' ∧ R v W' ∧ Below W.heap.size W W' ∧ Fresh fr v W W') ∨
  (∃ f args, (execOp a.eval o).run P W = .ok (.enter f args) W ∧ Calls P f args W fun e W' => ∃ v, e = .returned v ∧ R v W' ∧ Below W.heap.size W W' ∧ Fresh fr v W W')
structure Head where
  dst : Tmp
  R : Value → World → Prop
  deps : List Nat
  fresh : Bool
/-- all that is so behind those that are listed -/
def FreeInv (hs : List Head) (a0 : Act) (w0 : World) (listed : Array Bool) (a : Act) (W : World) : Prop :=
  Agree (hs.map (·.dst)) a0 a ∧ Below w0.heap.size w0 W ∧ (∀ (i : Nat) (h : Head), hs[i]? = some h → listed.getD i false = true → h.R (a.eval (.tmp h.dst)) W) ∧
    (∀ (i : Nat) (h : Head), hs[i]? = some h → listed.getD i false = true → h.fresh = true → ∃ g, blk (a.eval (.tmp h.dst)) = some g ∧ w0.heap.size ≤ g ∧ g < W.heap.size) ∧
    (∀ (i j : Nat) (h k : Head), hs[i]? = some h → hs[j]? = some k → i ≠ j → listed.getD i false = true → listed.getD j false = true → h.fresh = true → k.fresh = true → blk (a.eval (.tmp h.dst)) ≠ blk (a.eval (.tmp k.dst)))
theorem lt_of_some {hs : List Head} {i : Nat} {h : Head} (hi : hs[i]? = some h) : i < hs.length := by
  rcases Nat.lt_or_ge i hs.length with h' | h'
  · exact h'
  · rw [List.getElem?_eq_none h'] at hi; cases hi
/-- one head after the other -/
def AllHeads (p : Head → Oper → Prop) : List Head → List Oper → Prop
  | [], _ => True
  | h :: hs, o :: ol => p h o ∧ AllHeads p hs ol
  | _ :: _, [] => False
theorem AllHeads.at {p : Head → Oper → Prop} : ∀ {hs : List Head} {l : List Oper}, AllHeads p hs l → ∀ (i : Nat) (h : Head) (o : Oper), hs[i]? = some h → l[i]? = some o → p h o
  | [], _, _, i, h, o, hh, _ => by simp at hh
  | h0 :: hs, o0 :: l, ha, 0, h, o, hh, ho => by
    simp only [List.getElem?_cons_zero, Option.some.injEq] at hh ho
    rw [← hh, ← ho]
    exact ha.1
  | h0 :: hs, o0 :: l, ha, i + 1, h, o, hh, ho => AllHeads.at ha.2 i h o (by simpa using hh) (by simpa using ho)
  | _ :: _, [], ha, _, _, _, _, _ => ha.elim
/-- what is asked of one -/
def Head.ok (P : Program) (hs : List Head) (a0 : Act) (w0 : World) (h : Head) (o : Oper) : Prop :=
  o.guard = none ∧ o.dst = some h.dst ∧ Mono h.R ∧ (∀ a W, Agree (hs.map (·.dst)) a0 a → Below w0.heap.size w0 W → (∀ j ∈ h.deps, ∀ (hj : Head), hs[j]? = some hj → hj.R (a.eval (.tmp hj.dst)) W) → Yields P o a W h.fresh h.R)
theorem yields_value {o : Oper} {a : Act} {W : World} {R : Value → World → Prop} (v : Value) (h : (execOp a.eval o).run P W = .ok (.value v) W) (hR : R v W) : Yields P o a W false R := .inl ⟨v, W, h, hR, Below.refl _ _, fresh_no _ _ _⟩
theorem yields_call {o : Oper} {a : Act} {W : World} {R : Value → World → Prop} (f : FuncId) (args : Array Value) (h : (execOp a.eval o).run P W = .ok (.enter f args) W) (hc : Calls P f args W fun e W' => ∃ v, e = .returned v ∧ R v W' ∧ Below W.heap.size W W') : Yields P o a W false R :=
  .inr ⟨f, args, h, hc.mono fun e W' ⟨v, h1, h2, h3⟩ => ⟨v, h1, h2, h3, fresh_no _ _ _⟩⟩
end
end Go.Proofs.YtnnjmelibmiimaaGreat

namespace Go.Proofs.YtnnjmelibmiimaaGreat
open Go.RowKit
set_option linter.unusedVariables false

section
variable {P : Program} {Q : Exit → Act → World → Prop}
/-- how many of the first n are not listed -/
def unl (listed : Array Bool) : Nat → Nat
  | 0 => 0
  | n + 1 => unl listed n + (if listed.getD n false = true then 0 else 1)
theorem unl_same (listed : Array Bool) (i : Nat) : ∀ n, n ≤ i → unl (listed.setIfInBounds i true) n = unl listed n
  | 0, _ => rfl
  | n + 1, h => by
    rw [unl, unl, unl_same listed i n (by omega), getD_set_ne false (by omega)]
theorem unl_set {listed : Array Bool} {i : Nat} (hs : i < listed.size) (hi : listed.getD i false = false) : ∀ n, i < n → unl (listed.setIfInBounds i true) n + 1 = unl listed n
  | 0, h => by omega
  | n + 1, h => by
    rw [unl, unl]
    by_cases e : i = n
    · subst e
      rw [unl_same listed i i (Nat.le_refl _), hi]
      have : (listed.setIfInBounds i true).getD i false = true := by simp [hs]
      rw [this]
      simp
    · rw [getD_set_ne false e, ← unl_set hs hi n (by omega)]
      omega
theorem unl_zero {listed : Array Bool} : ∀ n, unl listed n = 0 → ∀ i, i < n → listed.getD i false = true
  | 0, _, i, h => by omega
  | n + 1, h0, i, h => by
    rw [unl] at h0
    by_cases e : i = n
    · subst e
      by_cases hl : listed.getD i false = true
      · exact hl
      · rw [if_neg hl] at h0; omega
    · exact unl_zero n (by omega) i (by omega)
theorem unl_pos {listed : Array Bool} : ∀ n, 0 < unl listed n → ∃ i, i < n ∧ listed.getD i false = false ∧ ∀ j, j < i → listed.getD j false = true
  | 0, h => by simp [unl] at h
  | n + 1, h => by
    by_cases h0 : 0 < unl listed n
    · obtain ⟨i, hi, h1, h2⟩ := unl_pos n h0
      exact ⟨i, by omega, h1, h2⟩
    · rw [unl] at h
      by_cases hl : listed.getD n false = true
      · rw [if_pos hl] at h; omega
      · exact ⟨n, by omega, by simpa using hl, fun j hj => unl_zero n (by omega) j hj⟩
/-- the first n listed -/
def allL (m n : Nat) : Array Bool := ((List.range m).map fun i => decide (i < n)).toArray
def wideB (ops : Array Oper) (n : Nat) (deps : Array (List Nat)) : Bool :=
  decide (n < ops.size) && Region.sinkB .any ops n && Region.chainB .any ops n && Region.seqB .any ops (ops.size - n) n (allL ops.size n) &&
    (List.range n).all (fun j => (deps.getD j []).all fun d => decide (d < n) && Region.waitsFor .any ops j d) &&
    (List.range n).all (fun j => match ops[j]? with
      | some o => o.after.toList.all fun e => !Region.binds .any e || decide (e.on < j)
      | none => false)
structure Wide (ops : Array Oper) (n : Nat) (deps : Array (List Nat)) : Prop where
  lt : n < ops.size
  sink : Region.sinkB .any ops n = true
  chain : Region.chainB .any ops n = true
  seq : Region.seqB .any ops (ops.size - n) n (allL ops.size n) = true
  dep : ∀ j, j < n → ∀ d ∈ deps.getD j [], d < n ∧ Region.waitsFor .any ops j d = true
  low : ∀ j, j < n → ∃ o, ops[j]? = some o ∧ ∀ e ∈ o.after, Region.binds .any e = true → e.on < j
theorem wide_of {ops : Array Oper} {n : Nat} {deps : Array (List Nat)} (h : wideB ops n deps = true) : Wide ops n deps := by
  simp only [wideB, Bool.and_eq_true, decide_eq_true_eq, List.all_eq_true, List.mem_range] at h
  obtain ⟨⟨⟨⟨⟨h1, h2⟩, h3⟩, h4⟩, h5⟩, h6⟩ := h
  refine ⟨h1, h2, h3, h4, fun j hj d hd => h5 j hj d hd, fun j hj => ?_⟩
  have := h6 j hj
  cases ho : ops[j]? with
  | none => rw [ho] at this; cases this
  | some o =>
    rw [ho] at this
    refine ⟨o, rfl, fun e he hb => ?_⟩
    simp only [List.all_eq_true] at this
    have := this e (by simpa using he)
    simpa [hb] using this
theorem all_listed {ops : Array Oper} {n : Nat} {listed : Array Bool} (inv : HeadInv .any ops n listed) (hn : n < ops.size) (h : ∀ i, i < n → listed.getD i false = true) : listed = allL ops.size n := by
  apply Array.ext
  · simp [allL, inv.size]
  · intro i h1 h2
    have h3 : i < ops.size := by rw [← inv.size]; exact h1
    simp only [allL, List.getElem_toArray, List.getElem_map, List.getElem_range]
    by_cases hi : i < n
    · rw [decide_eq_true hi]
      have := h i hi
      simpa [h1] using this
    · rw [decide_eq_false hi]
      have := inv.tail i (by omega) h3
      simpa [h1] using this
end
end Go.Proofs.YtnnjmelibmiimaaGreat

namespace Go.Proofs.YtnnjmelibmiimaaGreat
open Go.RowKit
set_option linter.unusedVariables false

section
variable {P : Program} {Q : Exit → Act → World → Prop}
/-- what an operation does, if it is wanted; else its slot tells nothing -/
def Takes (P : Program) (ops : Array Oper) (o : Oper) (a : Act) (W : World) (fr : Bool) (R : Value → World → Prop) : Prop :=
  (Region.wanted o (yielded ops a.tmps) = true ∧ Yields P o a W fr R) ∨ (Region.wanted o (yielded ops a.tmps) = false ∧ R undef W ∧ fr = false)
theorem takes_plain {ops : Array Oper} {o : Oper} {a : Act} {W : World} {fr : Bool} {R : Value → World → Prop} (hg : o.guard = none) (h : Yields P o a W fr R) : Takes P ops o a W fr R := .inl ⟨by simp [Region.wanted, hg], h⟩
theorem wide3_any {l : List Oper} {hs : List Head} {a0 : Act} {w0 : World} {g : Nat} (hW : wideB l.toArray hs.length (hs.map (·.deps)).toArray = true) (hg : (l.drop hs.length).length = g)
    (hdst : ∀ (i : Nat) (h : Head) (o : Oper), hs[i]? = some h → l[i]? = some o → o.dst = some h.dst) (hlen : hs.length ≤ l.length) (hin : ∀ h ∈ hs, h.dst < a0.tmps.size) (hdis : (hs.map (·.dst)).Nodup)
    (hm : ∀ h ∈ hs, Mono h.R)
    (hy : ∀ (i : Nat) (h : Head) (o : Oper), hs[i]? = some h → l[i]? = some o → ∀ a W, Agree (hs.map (·.dst)) a0 a → Below w0.heap.size w0 W → (∀ j ∈ h.deps, ∀ (hj : Head), hs[j]? = some hj → hj.R (a.eval (.tmp hj.dst)) W) → Takes P l.toArray o a W h.fresh h.R)
    (hk : ∀ a W, Agree (hs.map (·.dst)) a0 a → Below w0.heap.size w0 W → (∀ (i : Nat) (h : Head), hs[i]? = some h → h.R (a.eval (.tmp h.dst)) W) → (∀ (i j : Nat) (h k : Head), hs[i]? = some h → hs[j]? = some k → i ≠ j → h.fresh = true → k.fresh = true → blk (a.eval (.tmp h.dst)) ≠ blk (a.eval (.tmp k.dst))) → wpList P l.toArray Q (l.drop hs.length) a W) :
    ∀ (f : Nat) (listed : Array Bool) (a : Act) (W : World), HeadInv .any l.toArray hs.length listed → unl listed hs.length = f → FreeInv hs a0 w0 listed a W → wpAny P .any l.toArray Q (f + g) listed a W
  | 0, listed, a, W, inv, hu, hI => by
    have hWd := wide_of hW
    have hall := unl_zero _ hu
    rw [Nat.zero_add]
    have hsq := hWd.seq
    rw [← all_listed inv hWd.lt hall, show l.toArray.size - hs.length = g by rw [← hg]; simp] at hsq
    have := wpAny_of_seq (md := .any) (Q' := Q) (P := P) (l.drop hs.length) hs.length listed a W (fun j => by simp [List.getElem?_drop]) (by rw [hg]; exact hsq) (hk a W hI.1 hI.2.1 (fun i h hi => hI.2.2.1 i h hi (hall i (lt_of_some hi))) (fun i j h k hi hj hij => hI.2.2.2.2 i j h k hi hj hij (hall i (lt_of_some hi)) (hall j (lt_of_some hj))))
    rwa [hg] at this
  | f + 1, listed, a, W, inv, hu, hI => by
    have hWd := wide_of hW
    obtain ⟨i0, hi0, hun0, hlow0⟩ := unl_pos (listed := listed) hs.length (by omega)
    have hsz := inv.size
    have hun0' : listed.getD i0 true = false := getD_in (by have := hWd.lt; omega) hun0
    rw [show f + 1 + g = (f + g) + 1 by omega]
    have hne : i0 ∈ Region.ready .any l.toArray listed := by
      obtain ⟨o, ho, hb⟩ := hWd.low i0 hi0
      exact mem_ready.2 ⟨hun0', o, ho, fun e he hbd => hlow0 _ (hb e he hbd)⟩
    refine ⟨fun e => (by rw [e] at hne; cases hne), fun i hi => ?_⟩
    have hin2 : i < hs.length := by
      rcases Nat.lt_or_ge i hs.length with h | h
      · exact h
      · exact absurd hi (tail_waits hWd.sink hWd.chain hWd.lt inv _ i0 rfl hi0 hun0' i h)
    have hdep : ∀ d ∈ ((hs.map (·.deps)).toArray.getD i []), listed.getD d false = true := fun d hd => by
      obtain ⟨_, oi, hoi, hall⟩ := mem_ready.1 hi
      obtain ⟨oj, hoj, e, he, hb, hon⟩ := Region.waitsFor_spec (hWd.dep i hin2 d hd).2
      have : oj = oi := Option.some.inj (hoj.symm.trans hoi)
      subst this
      rw [← hon]
      exact hall e he hb
    have hrec : unl (listed.setIfInBounds i true) hs.length = f := by
      have := unl_set (listed := listed) (i := i) (by have := hWd.lt; omega) (getD_both (mem_ready.1 hi).1) hs.length hin2
      omega
    have hil : i < l.length := by omega
    obtain ⟨h, hh⟩ : ∃ h, hs[i]? = some h := ⟨_, List.getElem?_eq_getElem hin2⟩
    obtain ⟨o, ho⟩ : ∃ o, l[i]? = some o := ⟨_, List.getElem?_eq_getElem hil⟩
    have hd := hdst i h o hh ho
    have hmem : h ∈ hs := List.mem_of_getElem? hh
    have hdep2 : ∀ j ∈ h.deps, ∀ (hj : Head), hs[j]? = some hj → hj.R (a.eval (.tmp hj.dst)) W := fun j hj hj' hjj => by
      have hd1 : ((hs.map (·.deps)).toArray.getD i []) = h.deps := by simp [hh]
      exact hI.2.2.1 j hj' hjj (hdep j (by rw [hd1]; exact hj))
    have hself : ∀ v, (a.put (some h.dst) v).eval (.tmp h.dst) = v := fun v => by
      have hs1 : h.dst < a.tmps.size := by rw [hI.1.2.1]; exact hin h hmem
      simp [Act.put, Act.eval, hs1]
    have hoth : ∀ v (j : Nat) (hj : Head), hs[j]? = some hj → j ≠ i → (a.put (some h.dst) v).eval (.tmp hj.dst) = a.eval (.tmp hj.dst) := fun v j hj hjj hij => by
      refine eval_put_ne (fun e => hij ?_) _ _
      have hjl := lt_of_some hjj
      have e1 : (hs.map (·.dst))[j]'(by simpa using hjl) = (hs.map (·.dst))[i]'(by simpa using hin2) := by
        rw [List.getElem?_eq_getElem hjl] at hjj
        rw [List.getElem?_eq_getElem hin2] at hh
        injection hjj with hjj
        injection hh with hh
        simp only [List.getElem_map, hjj, hh]
        exact e.symm
      exact (List.getElem_inj hdis).1 e1
    have hlis : ∀ (j : Nat), j ≠ i → (listed.setIfInBounds i true).getD j false = true → listed.getD j false = true := fun j hij h' => by
      rw [Array.getD_eq_getD_getElem?, Array.getElem?_setIfInBounds_ne (Ne.symm hij)] at h'
      rw [Array.getD_eq_getD_getElem?]
      exact h'
    have key : ∀ v W', h.R v W' → Below W.heap.size W W' → Fresh h.fresh v W W' → wpAny P .any l.toArray Q (f + g) (listed.setIfInBounds i true) (a.put (some h.dst) v) W' := fun v W' hR hb hfr => by
      refine wide3_any hW hg hdst hlen hin hdis hm hy hk f _ _ _ (inv.set hi hin2) hrec ⟨hI.1.put (List.mem_map.2 ⟨h, hmem, rfl⟩) v, below_tr hI.2.1 hb hI.2.1.size, fun j hj hjj hlj => ?_, fun j hj hjj hlj hf => ?_, fun j k hj hk' hjj hkk hjk hlj hlk hfj hfk => ?_⟩
      · by_cases hij : j = i
        · subst hij
          rw [hh] at hjj
          injection hjj with hjj
          subst hjj
          rw [hself]
          exact hR
        · rw [hoth v j hj hjj hij]
          exact hm hj (List.mem_of_getElem? hjj) _ _ _ (hI.2.2.1 j hj hjj (hlis j hij hlj)) hb
      · by_cases hij : j = i
        · subst hij
          rw [hh] at hjj
          injection hjj with hjj
          subst hjj
          rw [hself]
          obtain ⟨g', e1, e2, e3⟩ := hfr hf
          exact ⟨g', e1, Nat.le_trans hI.2.1.size e2, e3⟩
        · rw [hoth v j hj hjj hij]
          obtain ⟨g', e1, e2, e3⟩ := hI.2.2.2.1 j hj hjj (hlis j hij hlj) hf
          exact ⟨g', e1, e2, Nat.lt_of_lt_of_le e3 hb.size⟩
      · by_cases hij : j = i
        · subst hij
          have hki : k ≠ j := Ne.symm hjk
          rw [hh] at hjj
          injection hjj with hjj
          subst hjj
          rw [hself, hoth v k hk' hkk hki]
          obtain ⟨g', e1, e2, e3⟩ := hfr hfj
          obtain ⟨g2, f1, f2, f3⟩ := hI.2.2.2.1 k hk' hkk (hlis k hki hlk) hfk
          rw [e1, f1]
          intro e
          injection e with e
          omega
        · by_cases hik : k = i
          · subst hik
            rw [hh] at hkk
            injection hkk with hkk
            subst hkk
            rw [hself, hoth v j hj hjj hij]
            obtain ⟨g', e1, e2, e3⟩ := hfr hfk
            obtain ⟨g2, f1, f2, f3⟩ := hI.2.2.2.1 j hj hjj (hlis j hij hlj) hfj
            rw [e1, f1]
            intro e
            injection e with e
            omega
          · rw [hoth v j hj hjj hij, hoth v k hk' hkk hik]
            exact hI.2.2.2.2 j k hj hk' hjj hkk hjk (hlis j hij hlj) (hlis k hik hlk) hfj hfk
    unfold wpOp
    rw [show l.toArray[i]? = some o by simpa using ho]
    simp only
    rcases hy i h o hh ho a W hI.1 hI.2.1 hdep2 with ⟨hwt, hyl⟩ | ⟨hwt, hR, hfr⟩
    · rw [if_pos hwt]
      refine .inl ?_
      unfold Oper.wp
      rcases hyl with ⟨v, W', hr, hR, hb, hfr⟩ | ⟨fn, args, hr, hc⟩
      · rw [hr]
        simp only [Oper.upon, hd]
        exact key v W' hR hb hfr
      · rw [hr]
        simp only [Oper.upon, hd]
        exact hc.mono fun e W' ⟨v, he, hR, hb, hfr⟩ => by subst he; exact key v W' hR hb hfr
    · rw [if_neg (by rw [hwt]; exact Bool.false_ne_true)]
      rw [hd]
      exact key undef W hR (Below.refl _ _) (by rw [hfr]; exact fresh_no _ _ _)
/-- what is asked of one -/
def Head.ok3 (P : Program) (ops : Array Oper) (hs : List Head) (a0 : Act) (w0 : World) (h : Head) (o : Oper) : Prop :=
  o.dst = some h.dst ∧ Mono h.R ∧ (∀ a W, Agree (hs.map (·.dst)) a0 a → Below w0.heap.size w0 W → (∀ j ∈ h.deps, ∀ (hj : Head), hs[j]? = some hj → hj.R (a.eval (.tmp hj.dst)) W) → Takes P ops o a W h.fresh h.R)
/-- THE LAW -/
theorem wp_wide3a {id : Nat} {a0 : Act} {w0 : World} {l : List Oper} (hs : List Head) (hmx : P.follows .mixedOrders = true) (hlen : hs.length ≤ l.length)
    (hB : wideB l.toArray hs.length (hs.map (·.deps)).toArray = true)
    (hdst : ∀ (i : Nat) (h : Head) (o : Oper), hs[i]? = some h → l[i]? = some o → o.dst = some h.dst) (hin : ∀ h ∈ hs, h.dst < a0.tmps.size) (hdis : (hs.map (·.dst)).Nodup) (hm : ∀ h ∈ hs, Mono h.R)
    (hy : ∀ (i : Nat) (h : Head) (o : Oper), hs[i]? = some h → l[i]? = some o → ∀ a W, Agree (hs.map (·.dst)) a0 a → Below w0.heap.size w0 W → (∀ j ∈ h.deps, ∀ (hj : Head), hs[j]? = some hj → hj.R (a.eval (.tmp hj.dst)) W) → Takes P l.toArray o a W h.fresh h.R)
    (hk : ∀ (vs : Tmp → Value) W, (∀ (i : Nat) (h : Head), hs[i]? = some h → h.R (vs h.dst) W) → (∀ (i j : Nat) (h k : Head), hs[i]? = some h → hs[j]? = some k → i ≠ j → h.fresh = true → k.fresh = true → blk (vs h.dst) ≠ blk (vs k.dst)) → Below w0.heap.size w0 W → wpList P l.toArray Q (l.drop hs.length) ((hs.map (·.dst)).foldl (fun x d => x.put (some d) (vs d)) a0) W) :
    (Code.region id l.toArray true).wp P Q a0 w0 := by
  refine wp_region_any hmx ?_
  have hinv : HeadInv .any l.toArray hs.length (Array.replicate l.toArray.size false) := ⟨by simp, fun j oj hj hl => (by rw [getD_replicate_false] at hl; cases hl), fun t ht ht' => getD_in (by simpa using ht') (getD_replicate_false _ _)⟩
  have hunl : ∀ n, unl (Array.replicate l.toArray.size false) n = n := fun n => by
    induction n with
    | zero => rfl
    | succ n ih => rw [unl, ih, getD_replicate_false]; simp
  have h1 := wide3_any (P := P) (Q := Q) (l := l) (hs := hs) (a0 := a0) (w0 := w0) (g := l.length - hs.length) hB (by simp) hdst hlen hin hdis hm hy
    (fun a W hA hb hR hF => by
      have := hk (fun d => a.eval (.tmp d)) W hR hF hb
      rw [← Agree.rebuild _ _ hA] at this
      exact this) hs.length (Array.replicate l.toArray.size false) a0 { w0 with drawn := w0.drawn + 1 } hinv (hunl _)
    ⟨Agree.refl _ _, (Below.refl _ w0).drew, fun i h hi hl => (by rw [getD_replicate_false] at hl; cases hl), fun i h hi hl => (by rw [getD_replicate_false] at hl; cases hl), fun i j h k hi hj hij hl => (by rw [getD_replicate_false] at hl; cases hl)⟩
  have hsz : l.toArray.size = hs.length + (l.length - hs.length) := by rw [List.size_toArray]; omega
  have e : wpAny P .any l.toArray Q l.toArray.size = wpAny P .any l.toArray Q (hs.length + (l.length - hs.length)) := congrArg _ hsz
  rw [e]
  exact h1
theorem wp_wide3 {id : Nat} {a0 : Act} {w0 : World} {l : List Oper} (hs : List Head) (hmx : P.follows .mixedOrders = true)
    (hB : wideB l.toArray hs.length (hs.map (·.deps)).toArray = true)
    (hlen : decide (hs.length ≤ l.length) = true) (hin : (hs.map (·.dst)).all (fun d => decide (d < a0.tmps.size)) = true) (hdis : decide ((hs.map (·.dst)).Nodup) = true)
    (hok : AllHeads (Head.ok3 P l.toArray hs a0 w0) hs l)
    (hk : ∀ (vs : Tmp → Value) W, (∀ (i : Nat) (h : Head), hs[i]? = some h → h.R (vs h.dst) W) → (∀ (i j : Nat) (h k : Head), hs[i]? = some h → hs[j]? = some k → i ≠ j → h.fresh = true → k.fresh = true → blk (vs h.dst) ≠ blk (vs k.dst)) → Below w0.heap.size w0 W → wpList P l.toArray Q (l.drop hs.length) ((hs.map (·.dst)).foldl (fun x d => x.put (some d) (vs d)) a0) W) :
    (Code.region id l.toArray true).wp P Q a0 w0 := by
  have hlen' := of_decide_eq_true hlen
  have hmem : ∀ h ∈ hs, ∃ (i : Nat) (o : Oper), hs[i]? = some h ∧ l[i]? = some o := fun h hh => by
    obtain ⟨i, hi, rfl⟩ := List.getElem_of_mem hh
    exact ⟨i, _, List.getElem?_eq_getElem hi, List.getElem?_eq_getElem (by omega)⟩
  refine wp_wide3a hs hmx hlen' hB (fun i h o hi ho => (hok.at i h o hi ho).1) (fun h hh => ?_) (of_decide_eq_true hdis) (fun h hh => ?_) (fun i h o hi ho => (hok.at i h o hi ho).2.2) hk
  · have := List.all_eq_true.1 hin h.dst (List.mem_map.2 ⟨h, hh, rfl⟩)
    exact of_decide_eq_true this
  · obtain ⟨i, o, hi, ho⟩ := hmem h hh
    exact (hok.at i h o hi ho).2.1
end
end Go.Proofs.YtnnjmelibmiimaaGreat
namespace Go.Proofs.YtnnjmelibmiimaaGreat
open Go.RowKit
set_option linter.unusedVariables false

/-- integers as cells -/
def its (l : List Nat) : Array Value := (l.map (fun n : Nat => Value.int .i64 (n : Int))).toArray
section
variable {w w' : World} {b : Nat} {l : List Nat}
end
section
variable {B : Nat} {w0 w w' : World} {x y l : List Nat}
end
end Go.Proofs.YtnnjmelibmiimaaGreat
namespace Go.Proofs.YtnnjmelibmiimaaGreat
open Go.RowKit
set_option linter.unusedVariables false

theorem eval_get (a : Act) (t : Nat) : a.tmps[t]?.getD undef = a.eval (.tmp t) := by simp [Act.eval]
section
variable {B gs : Nat} {w0 w w' : World} {H : List Nat} {A : Option Addr} {N c : Nat} {L S : List Nat}
end
end Go.Proofs.YtnnjmelibmiimaaGreat
namespace Go.Proofs.YtnnjmelibmiimaaGreat
open Go.RowKit
set_option linter.unusedVariables false

theorem Bk.kept {w w' : World} {b : Nat} {t : TypeId} {l : List Nat} (h : Bk w b t l) {row : Option Nat} (hg : w.grownBy w' row) (hne : some b ≠ row) : Bk w' b t l := (hg.block b h.lt hne).trans h
section
variable {B0 gc : Nat} {w0 w w' : World} {v : Value} {at_ blk out : List Nat}
end
end Go.Proofs.YtnnjmelibmiimaaGreat
namespace Go.Proofs.YtnnjmelibmiimaaGreat
open Go.RowKit
set_option linter.unusedVariables false

/-- the bytes of an error, and what has been handed back -/
theorem OutB.form {w w' : World} {l : List Nat} {err : Nat} {e : Ending} (h : OutB w l err e w') : ∃ A c, e = .returned (.tuple #[.slice A l.length c, .int .i64 (err : Int)]) ∧ IsB w' A l.length c l ∧ Below w.heap.size w w' := by
  obtain ⟨v, rfl, ho, hb⟩ := h
  obtain ⟨A, c, rfl, h1, h2⟩ := ho.shape
  exact ⟨A, c, rfl, ho.isB rfl, hb⟩

/-! the refusals -/
end Go.Proofs.YtnnjmelibmiimaaGreat

namespace Go.Proofs.YtnnjmelibmiimaaGreat
open Go.RowKit
set_option linter.unusedVariables false

end Go.Proofs.YtnnjmelibmiimaaGreat

namespace Go.Proofs.YtnnjmelibmiimaaGreat
open Go.RowKit
set_option linter.unusedVariables false

end Go.Proofs.YtnnjmelibmiimaaGreat

namespace Go.Proofs.YtnnjmelibmiimaaGreat
open Go.RowKit
set_option linter.unusedVariables false

theorem IsB.take {w : World} {A : Option Addr} {n c : Nat} {l : List Nat} (h : IsB w A n c l) {m : Nat} (hm : m ≤ n) : IsB w A m c (l.take m) := by
  have := h.1.take hm
  rw [← List.map_take] at this
  exact ⟨this, byt_take h.2 m⟩
end Go.Proofs.YtnnjmelibmiimaaGreat
namespace Go.Proofs.YtnnjmelibmiimaaGreat
open Go.RowKit
set_option linter.unusedVariables false

/-- bytes of the call's own, in a tuple with an error's number -/
def TupB (B err : Nat) (l : List Nat) (v : Value) (W : World) : Prop := ∃ v0, v = .tuple #[v0, .int .i64 (err : Int)] ∧ OwB W B v0 l
theorem TupB.mono (B err : Nat) (l : List Nat) : Mono (TupB B err l) := fun v W W' ⟨v0, h1, h2⟩ hb => ⟨v0, h1, h2.ab hb⟩
def OwR (B : Nat) (l : List Nat) (v : Value) (W : World) : Prop := OwB W B v l
theorem OwR.mono (B : Nat) (l : List Nat) : Mono (OwR B l) := fun v W W' h hb => h.ab hb
theorem OwB.lower {w : World} {B B' : Nat} {v : Value} {l : List Nat} (h : OwB w B v l) (hb : B' ≤ B) : OwB w B' v l := by
  refine ⟨⟨h.own.1, ?_⟩, h.byt⟩
  rcases h.own.2 with hn | ⟨g, cap, cur, e, hb', rest⟩
  · exact .inl hn
  · exact .inr ⟨g, cap, cur, e, Nat.le_trans hb hb', rest⟩
theorem add_zero' (A : Option Addr) : A.map (·.add 0) = A := by
  cases A with
  | none => rfl
  | some x => simp [Addr.add]
theorem IsB.none {w : World} {n c : Nat} {l : List Nat} (h : IsB w none n c l) : n = 0 ∧ c = 0 := by
  rcases h.1.2.2.2.2 with ⟨h1, h2⟩ | ⟨x, h1, _⟩
  · exact ⟨by have := h.1.2.1; omega, h2⟩
  · cases h1
end Go.Proofs.YtnnjmelibmiimaaGreat
