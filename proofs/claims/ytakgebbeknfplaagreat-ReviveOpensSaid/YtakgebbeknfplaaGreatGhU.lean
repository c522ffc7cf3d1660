/-
  WALKS: ghash.Sum.
  WALKS: ghash.Sum.
-/
import Derived.Test.YtakgebbeknfplaaGreatGhT
import Derived.Test.YtakgebbeknfplaaGreatGcB
import Derived.Test.YtakgebbeknfplaaGreatCtL
import Derived.Test.YtakgebbeknfplaaGreatGcP
namespace Go.Proofs.YtakgebbeknfplaaGreat
open Go.RowKit
set_option linter.unusedVariables false

theorem el_e2 (n : Nat) : el n = e2 (n / 18446744073709551616) (n % 18446744073709551616) := rfl
/-- a block of two words, as one number -/
def En (w : World) (g n : Nat) : Prop := w.heap[g]? = some (.cells (el n) 420 (0, 0))
section
variable {w w' : World} {g n : Nat}
theorem En.ek (k : En w g n) : Ek w g (n / 18446744073709551616) (n % 18446744073709551616) := k
theorem En.lt (k : En w g n) : g < w.heap.size := lt_of_block k
theorem En.ab (k : En w g n) (hb : Below w.heap.size w w') : En w' g n := (hb.block g k.lt).trans k
theorem En.alloc (k : En w g n) (o : Obj) : En (w.alloc o) g n := (Below.heap_alloc w o g k.lt).trans k
theorem En.newAt (w : World) (n : Nat) {m : Nat} (h : m = w.heap.size) : En (w.alloc (.cells (el n) 420)) m n := by rw [h]; exact heap_alloc_new w _
end
/-- s[m:] of bytes: Go keeps the old address where nothing is left of the capacity -/
def dropA (A : Option Addr) (c m : Nat) : Option Addr := if c = m then A else A.map (·.add m)
theorem isB_drop {w : World} {A : Option Addr} {n c : Nat} {l : List Nat} (h : IsB w A n c l) {m : Nat} (hm : m ≤ n) : IsB w (dropA A c m) (n - m) (c - m) (l.drop m) := by
  have := h.1.drop hm
  rw [← List.map_drop] at this
  exact ⟨this, byt_drop h.2 m⟩
theorem sl_from (W : World) (A : Option Addr) (n c m : Nat) (hm : m ≤ n) : (Instr.sliceAt 22 (.slice A n c) (some (.int .i64 (m : Int))) none none).run Tryz.prog W = .ok (.slice (dropA A c m) (n - m) (c - m)) W := by
  have h : Tryz.prog.underlying 22 = some (.slice (Tryz.prog.elem 22)) := by kernel_rfl
  have hs : (sizeOf (Tryz.prog.elem 22)).run Tryz.prog W = .ok 1 W := by
    have h : (Tryz.prog.info? (Tryz.prog.elem 22)).map (·.size) = some 1 := by kernel_rfl
    cases hq : Tryz.prog.info? (Tryz.prog.elem 22) with
    | none => rw [hq] at h; cases h
    | some i => rw [hq] at h; simp only [Option.map_some, Option.some.injEq] at h; simp [sizeOf, typeInfo, hq, h]
  rw [run_sliceAt_slice W _ _ _ _ _ h, run_slice_l W _ _ _ _ h .i64 (m : Int) (by omega) (by omega), hs]
  simp only [Result.andThen_ok, sliced, Nat.mul_one, Int.toNat_natCast]
  unfold dropA
  rfl
/-- copy of so many bytes as there is room for -/
theorem run_copyM (W : World) (ty : TypeId) (g o d dc m : Nat) {t : TypeId} {cur l : List Nat} (hg : Bk W g t cur) {A : Option Addr} {n c : Nat} (h : IsB W A n c l) (hn : 0 < n) (hm : m = Nat.min n d) (hfit : o + m ≤ cur.length) :
    (Builtin.copy_ #[22, 22] ty #[.slice (some ⟨g, o, none⟩) d dc, .slice A n c]).run Tryz.prog W = .ok (goInt m) (W.setRow g (bts (cur.take o ++ (l.take m ++ cur.drop (o + m))))) := by
  have hl := h.len
  obtain ⟨x, rfl, _, hx⟩ := h.cell hn
  have hmn : m ≤ n := by rw [hm]; exact Nat.min_le_left _ _
  have hlm : (l.take m).length = m := by rw [List.length_take]; omega
  have hr := run_copy_row (P := Tryz.prog) W 22 22 ty 5 g o d dc x n c (bts cur) t ((l.take m).map (fun n : Nat => Value.int .u8 (n : Int))) Tryz.underlying22 szByte hg (by rw [List.length_map, hlm]; exact hm)
    (fun j v hv => by
      rw [List.getElem?_map] at hv
      have hj : j < m := by
        by_cases h' : j < m
        · exact h'
        · rw [List.getElem?_eq_none (by omega)] at hv; simp at hv
      rw [hx j (by omega)]
      rw [List.getElem?_eq_getElem (by omega), List.getElem_take] at hv
      simp only [at', List.getElem?_eq_getElem (show j < l.length by omega)]
      simpa using hv)
    (by rw [List.length_map, bts_size, hlm]; omega) (fun v hv => by obtain ⟨x, _, rfl⟩ := List.mem_map.1 hv; rfl)
  rw [List.length_map, hlm] at hr
  rw [hr, List.append_assoc, bts_splice]
theorem wpList_copyM {ops : Array Oper} {rest : List Oper} {o : Oper} {a : Act} {w : World} {Q : Exit → Act → World → Prop} (hgd : o.guard = none) (s x : Operand)
    (ho : o.op = .call { callee := .builtin .copy, args := #[s, x], argTypes := #[22, 22] })
    (g p d dc m : Nat) {t : TypeId} {cur l : List Nat} (hg : Bk w g t cur) (hs : a.eval s = .slice (some ⟨g, p, none⟩) d dc) {A : Option Addr} {n c : Nat} (hx : a.eval x = .slice A n c) (hr : IsB w A n c l) (hn : 0 < n) (hm : m = Nat.min n d) (hfit : p + m ≤ cur.length) (l2 : List Nat) (he : cur.take p ++ (l.take m ++ cur.drop (p + m)) = l2)
    (h : ∀ w2, w2 = w.setRow g (bts l2) → wpList Tryz.prog ops Q rest (a.put o.dst (goInt m)) w2) : wpList Tryz.prog ops Q (o :: rest) a w := by
  have hrun := run_copyM w o.type g p d dc m hg hr hn hm hfit
  rw [he] at hrun
  refine wpList_plain hgd fun K hK => ?_
  unfold Oper.wp execOp
  simp only [ho, resolve, invoke, builtin, Sem.run_bind, Sem.run_pure, Result.andThen_ok, List.map_toArray, List.map_cons, List.map_nil, hs, hx, hrun]
  exact hK _ _ (h _ rfl)
end Go.Proofs.YtakgebbeknfplaaGreat

namespace Go.Proofs.YtakgebbeknfplaaGreat
open Go.RowKit
set_option linter.unusedVariables false

theorem e2_one (p q : Nat) : (e2 p q).all (·.oneCell') = true := by simp [e2, Value.oneCell']
theorem szEl : (Tryz.prog.info? 420).map (·.size) = some 2 := by kernel_rfl
section
variable {w w' : World} {g h l : Nat}
theorem Ek.row (k : Ek w g h l) (p q : Nat) : Ek (w.setRow g (e2 p q)) g p q := setRow_heap w g _ _ _ _ k
theorem Ek.rowFar (k : Ek w g h l) {c : Nat} (hne : g ≠ c) (cs : Array Value) : Ek (w.setRow c cs) g h l := (setRow_other w c g cs hne).trans k
theorem Ek.newAt (w : World) (h l : Nat) {m : Nat} (e : m = w.heap.size) : Ek (w.alloc (.cells (e2 h l) 420)) m h l := by rw [e]; exact Ek.new w h l
end
/-- a store of two words, the new world under a name of its own -/
theorem wpList_store2 {ops : Array Oper} {rest : List Oper} {o : Oper} {a : Act} {w : World} {Q : Exit → Act → World → Prop} (hgd : o.guard = none) (x y : Operand) (ho : o.op = .store 420 x y)
    (g : Nat) (hx : a.eval x = .pointer (some ⟨g, 0, none⟩)) (p q : Nat) (hy : a.eval y = .agg #[.int .u64 (p : Int), .int .u64 (q : Int)]) {h0 l0 : Nat} (hg : Ek w g h0 l0)
    (h : ∀ w2, w2 = w.setRow g (e2 p q) → wpList Tryz.prog ops Q rest (a.put o.dst undef) w2) : wpList Tryz.prog ops Q (o :: rest) a w := by
  have hrun := run_storeVar_row (P := Tryz.prog) w g 420 420 (e2 h0 l0) (e2 p q) hg szEl rfl (e2_one p q)
  refine wpList_plain hgd fun K hK => ?_
  have hK := hK _ _ (h _ rfl)
  unfold Oper.wp execOp
  have hy' : a.eval y = .agg (e2 p q) := hy
  simp only [ho, hx, hy', Instr.storeAt, Instr.sureAddr, Sem.run_bind, Sem.run_pure, Result.andThen_ok, hrun]
  exact hK
/-- what holds in the loops -/
structure GsSt (B g : Nat) (w0 w : World) (xh xl : Nat) (sA tA : Value) (sh sl : Nat) : Prop where
  rb : Bk w (B + 1) 365 z16
  hb : Ek w g xh xl
  sb : Ek w (g + 1) sh sl
  lb : w.heap[g + 1 + 1]? = some (.cells #[sA, tA] 22 (0, 0))
  below : Below B w0 w
  far : B + 1 < g
section
variable {B g : Nat} {w0 w w' : World} {xh xl sh sl : Nat} {sA tA : Value}
theorem GsSt.c0 (h : GsSt B g w0 w xh xl sA tA sh sl) : w.cell? ⟨g + 1 + 1, 0, none⟩ = some sA := by rw [cell_of_row w _ 0 _ _ (0, 0) h.lb]; rfl
theorem GsSt.c1 (h : GsSt B g w0 w xh xl sA tA sh sl) : w.cell? ⟨g + 1 + 1, 1, none⟩ = some tA := by rw [cell_of_row w _ 1 _ _ (0, 0) h.lb]; rfl
theorem GsSt.lt (h : GsSt B g w0 w xh xl sA tA sh sl) : g + 1 + 1 < w.heap.size := lt_of_block h.lb
theorem GsSt.ab (h : GsSt B g w0 w xh xl sA tA sh sl) (hb : Below w.heap.size w w') : GsSt B g w0 w' xh xl sA tA sh sl :=
  ⟨h.rb.ab hb, h.hb.ab hb, h.sb.ab hb, (hb.block _ h.lt).trans h.lb, below_tr h.below hb (by have := h.rb.lt; omega), h.far⟩
theorem GsSt.alloc (h : GsSt B g w0 w xh xl sA tA sh sl) (o : Obj) : GsSt B g w0 (w.alloc o) xh xl sA tA sh sl := h.ab ((Below.refl _ _).alloc (Nat.le_refl _) _)
theorem GsSt.rowFar (h : GsSt B g w0 w xh xl sA tA sh sl) {c : Nat} (hc : g + 1 + 1 < c) (cs : Array Value) : GsSt B g w0 (w.setRow c cs) xh xl sA tA sh sl :=
  have hf := h.far
  ⟨h.rb.rowFar (by omega) _, h.hb.rowFar (by omega) _, h.sb.rowFar (by omega) _, (setRow_other w c _ cs (by omega)).trans h.lb, Below.row h.below (by omega) _, h.far⟩
theorem GsSt.sum (h : GsSt B g w0 w xh xl sA tA sh sl) (p q : Nat) : GsSt B g w0 (w.setRow (g + 1) (e2 p q)) xh xl sA tA p q :=
  have hf := h.far
  ⟨h.rb.rowFar (by omega) _, h.hb.rowFar (by omega) _, h.sb.row p q, (setRow_other w (g + 1) _ _ (by omega)).trans h.lb, Below.row h.below (by omega) _, h.far⟩
end
theorem blk16 {l : List Nat} {n m : Nat} (hl : l.length = n) (hm : m = Nat.min n 16) : z16.take 0 ++ (l.take m ++ z16.drop (0 + m)) = pad16 (l.take 16) := by
  have e : Nat.min n 16 = min n 16 := rfl
  have h1 : l.take m = l.take 16 := by
    rcases Nat.lt_or_ge n 16 with h | h
    · rw [List.take_of_length_le (by omega), List.take_of_length_le (by omega)]
    · rw [show m = 16 by omega]
  have h2 : z16 = zeros 16 := rfl
  rw [h1, h2, pad16, List.take_zero, List.nil_append, Nat.zero_add]
  congr 1
  unfold zeros
  rw [List.drop_replicate, List.length_take]
  congr 1
  omega
/-- two words of a number -/
theorem el_parts (X : Nat) (hX : X < 2 ^ 128) : ∃ h l : Nat, h < 18446744073709551616 ∧ l < 18446744073709551616 ∧ N2 h l = X ∧ el X = #[.int .u64 (h : Int), .int .u64 (l : Int)] :=
  ⟨X / 18446744073709551616, X % 18446744073709551616, by omega, by omega, by unfold N2; omega, rfl⟩
/-- the sum behind i texts -/
def gS (X : Nat) (aad text : List Nat) : Nat → Nat
  | 0 => 0
  | 1 => absorb X 0 aad
  | _ => absorb X (absorb X 0 aad) text
theorem mul8_wrap (n : Nat) (h : n ≤ 281474976710656) : IntKind.u64.wrap (n : Int) = (n : Int) ∧ IntKind.u64.wrap (8 * (n : Int)) = 8 * (n : Int) :=
  ⟨wrap_u64' (n := n) (by omega) _ (by omega) (by omega), wrap_u64' (n := 8 * n) (by omega) _ (by omega) (by omega)⟩
theorem xor_len (s n : Nat) (hs : s < 18446744073709551616) (h : n ≤ 281474976710656) : bits .xor .u64 (s : Int) (8 * (n : Int)) = ((s ^^^ (8 * n) : Nat) : Int) := by
  have := xor_u64 s (8 * n) hs (by omega)
  rw [← this]
  rfl
set_option maxRecDepth 100000 in
set_option maxHeartbeats 4000000 in
theorem gsum_any (H : List Nat) (aA tA : Option Addr) (an ac tn tc : Nat) (aad text : List Nat) (w : World) (hH : Byt H) (lH : H.length = 16) (ia : IsB w aA an ac aad) (it : IsB w tA tn tc text) (ha : an ≤ 281474976710656) (ht : tn ≤ 281474976710656) :
    Calls Tryz.prog 263 #[.agg (bts H), .slice aA an ac, .slice tA tn tc] w fun e w' => e = .returned (.agg (bts (sumB H aad text))) ∧ Below w.heap.size w w' := by
  have la := ia.len
  have lt := it.len
  have hX := numB_lt16 hH lH
  obtain ⟨xh, xl, hxh, hxl, hxN, hxe⟩ := el_parts _ hX
  have hof := fun W => of2_any H hH lH W
  rw [hxe] at hof
  have hS : sumB H aad text = digB (hsum (numB H) aad text) 16 := rfl
  rw [hS]
  have hsm : hsum (numB H) aad text = hmul (gS (numB H) aad text 2 ^^^ N2 (8 * aad.length) (8 * text.length)) (numB H) := rfl
  rw [la, lt] at hsm
  rw [hsm]
  have S0 : Hid (Bk ((w.alloc (.cells (bts H) 365)).alloc (.cells (bts z16) 365)) w.heap.size 365 H) := Lib.hid ((Bk.newAt _ H rfl).alloc _)
  have S1 : Hid (Bk ((w.alloc (.cells (bts H) 365)).alloc (.cells (bts z16) 365)) (w.heap.size + 1) 365 z16) := Lib.hid (Bk.newAt _ z16 (by simp))
  have S2 : Hid (Below w.heap.size w ((w.alloc (.cells (bts H) 365)).alloc (.cells (bts z16) 365))) := Lib.hid (((Below.refl _ _).alloc (Nat.le_refl _) _).alloc (Nat.le_of_lt (by simp)) _)
  have LH := Lib.hid lH
  have IA := Lib.hid ia
  have IT := Lib.hid it
  have HX := Lib.hid hX
  have HOF := Lib.hid hof
  have HXN := Lib.hid hxN
  generalize numB H = X at *
  have G1 : gS X aad text 1 = absorb X (gS X aad text 0) aad := rfl
  have G2 : gS X aad text 2 = absorb X (gS X aad text 1) text := rfl
  have G0 : gS X aad text 0 = 0 := rfl
  have GL := fun i => (show gS X aad text i < 2 ^ 128 from by
    have h1 := absorb_lt hX aad.length 0 aad (Nat.le_refl _) (by decide)
    match i with
    | 0 => exact (by decide : (0:Nat) < 2 ^ 128)
    | 1 => exact h1
    | _ + 2 => exact absorb_lt hX text.length _ text (Nat.le_refl _) h1)
  generalize gS X aad text = G at *
  have HG1 := Lib.hid G1
  have HG2 := Lib.hid G2
  have HG0 := Lib.hid G0
  have HGL := Lib.hid GL
  have HAL := Lib.hid ha
  have HTL := Lib.hid ht
  obtain ⟨ma1, ma2⟩ := mul8_wrap an ha
  obtain ⟨mt1, mt2⟩ := mul8_wrap tn ht
  clear ia it hX hof hxN hxe hS hsm lH hH la lt G0 G1 G2 GL ha ht
  go_enter Tryz.func263, Tryz.ntmps263
  go_wp2_with (refine wpList_loadB (l := H) (o := ⟨some 14, _, _, _, _, _⟩) rfl 365 (.tmp 3) rfl w.heap.size rfl (t := 365) ?_ Tryz.underlying365 (by rw [LH.out]; exact sz16) ?_
               · exact S0.out)
  refine (HOF.out _).mono ?_
  rintro e w1 ⟨rfl, hb1⟩
  have T0 : Hid (Bk w1 (w.heap.size + 1) 365 z16) := Lib.hid (S1.out.ab hb1)
  have T1 : Hid (Below w.heap.size w w1) := Lib.hid (below_tr S2.out hb1 S2.out.size)
  clear hb1 S0 S1 S2 HOF
  go_wp2_with (first
    | ((with_reducible refine wpList_store2 (o := ⟨none, .store _ (.tmp 7) (.tmp 15), _, _, _, _⟩) rfl (.tmp 7) (.tmp 15) rfl w1.heap.size ?_ xh xl ?_ (h0 := 0) (l0 := 0) ?_ ?_)
       · rfl
       · rfl
       · exact (Ek.newAt _ 0 0 rfl).alloc _
       intro w2 hw2
       have hz2 : w2.heap.size = w1.heap.size + 1 + 1 := by rw [hw2]; simp
       have U0 : Hid (Ek w2 w1.heap.size xh xl) := Lib.hid (by rw [hw2]; exact ((show Ek (w1.alloc (.cells (e2 0 0) 420)) w1.heap.size 0 0 from Ek.newAt _ 0 0 rfl).alloc _).row _ _)
       have U1 : Hid (Ek w2 (w1.heap.size + 1) 0 0) := Lib.hid (by rw [hw2]; exact (Ek.newAt _ 0 0 (by simp)).rowFar (by omega) _)
       have U2 : Hid (Bk w2 (w.heap.size + 1) 365 z16) := Lib.hid (by rw [hw2]; exact ((T0.out.alloc _).alloc _).rowFar (by have := T0.out.lt; omega) _)
       have U3 : Hid (Below w.heap.size w w2) := Lib.hid (by rw [hw2]; exact Below.row ((T1.out.alloc T1.out.size _).alloc (by have := T1.out.size; simp; omega) _) T1.out.size _)
       clear hw2)
    | ((with_reducible refine wpList_store2 (o := ⟨none, .store _ (.tmp 8) (.tmp 16), _, _, _, _⟩) rfl (.tmp 8) (.tmp 16) rfl (w1.heap.size + 1) ?_ 0 0 ?_ (h0 := 0) (l0 := 0) ?_ ?_)
       · rfl
       · rfl
       · exact U1.out
       intro w3 hw3
       have hz3 : w3.heap.size = w1.heap.size + 1 + 1 := by rw [hw3]; simpa using hz2
       have Z0 : Hid (GsSt w.heap.size w1.heap.size w (w3.alloc (.cells #[.slice aA an ac, .slice tA tn tc] 22)) xh xl (.slice aA an ac) (.slice tA tn tc) 0 0) := Lib.hid (by
         have f1 := T0.out.lt
         have hw4 : w3.heap[w1.heap.size + 1 + 1]? = none := by rw [← hz3]; simp
         refine ⟨?_, ?_, ?_, ?_, ?_, f1⟩
         · rw [hw3]; exact (U2.out.rowFar (by omega) _).alloc _
         · rw [hw3]; exact (U0.out.rowFar (by omega) _).alloc _
         · rw [hw3]; exact (U1.out.row 0 0).alloc _
         · rw [← hz3]; exact heap_alloc_new w3 _
         · rw [hw3]
           have hb := Below.row (g := w1.heap.size + 1) U3.out (by have := T1.out.size; omega) (e2 0 0)
           exact hb.alloc hb.size _)
       clear hw3))

  have GLT : Hid (w1.heap.size + 1 + 1 < (w3.alloc (.cells #[.slice aA an ac, .slice tA tn tc] 22)).heap.size) := Lib.hid Z0.out.lt
  generalize w3.alloc (.cells #[.slice aA an ac, .slice tA tn tc] 22) = w4 at *
  clear U0 U1 U2 U3 hz2 T0 T1 hz3 GLT
  generalize w1.heap.size = g at *
  go_loopw [10, 11, 12, 13, 21] (fun _ _ _ _ j wr => ∃ i sh sl : Nat, i ≤ 2 ∧ j = .int .i64 i ∧ sh < 18446744073709551616 ∧ sl < 18446744073709551616 ∧ N2 sh sl = G i ∧ GsSt w.heap.size g w wr xh xl (.slice aA an ac) (.slice tA tn tc) sh sl) (fun _ _ _ _ j _ => 2 - (intOf j).toNat)
  case atStart => exact ⟨0, 0, 0, by omega, rfl, by omega, by omega, by rw [HG0.out]; rfl, Z0.out⟩
  case round =>
    obtain ⟨i, sh, sl, hi, rfl, hsh, hsl, hG, hst⟩ := hrel
    clear Z0
    by_cases hlt : i < 2
    · have hii : (i : Int) < 2 := by omega
      have hsl2 : ∃ (A : Option Addr) (n c : Nat) (l : List Nat), wr.cell? ⟨g + 1 + 1, i, none⟩ = some (.slice A n c) ∧ IsB w A n c l ∧ G (i + 1) = absorb X (G i) l ∧ n ≤ 281474976710656 := by
        have : i = 0 ∨ i = 1 := by omega
        rcases this with rfl | rfl
        · exact ⟨aA, an, ac, aad, hst.c0, IA.out, HG1.out, HAL.out⟩
        · exact ⟨tA, tn, tc, text, hst.c1, IT.out, HG2.out, HTL.out⟩
      obtain ⟨A, n, c, l, hcl, hil, hgl, hn⟩ := hsl2
      have HS := Lib.hid hst
      have HGI := Lib.hid hG
      have HIL := Lib.hid hil
      have HGL2 := Lib.hid hgl
      have HNB := Lib.hid hn
      clear hst hG hil hgl hn
      go_wp2_with fail
      go_loopw [10, 11, 12, 13] (fun v _ _ _ ws => ∃ (A' : Option Addr) (n' c' : Nat) (l' : List Nat) (h' l2 : Nat), v = .slice A' n' c' ∧ IsB w A' n' c' l' ∧ n' ≤ 281474976710656 ∧ h' < 18446744073709551616 ∧ l2 < 18446744073709551616 ∧ absorb X (N2 h' l2) l' = G (i + 1) ∧ GsSt w.heap.size g w ws xh xl (.slice aA an ac) (.slice tA tn tc) h' l2) (fun v _ _ _ _ => lenV v)
      case atStart => exact ⟨A, n, c, l, sh, sl, rfl, HIL.out, HNB.out, hsh, hsl, by rw [HGI.out, HGL2.out], HS.out⟩
      case round =>
        obtain ⟨A', n', c', l', h', l2, rfl, hin, hnb, hh', hl2, hab, hst⟩ := hrel
        clear HS HIL HNB HGI HGL2
        by_cases hpos : 0 < n'
        · have hp1 : decide ((0 : Int) < (n' : Int)) = true := by simp; omega
          obtain ⟨m, hm⟩ : ∃ m, m = Nat.min n' 16 := ⟨_, rfl⟩
          have hm2 : m ≤ n' := by rw [hm]; exact Nat.min_le_left _ _
          have hm3 : 0 < m := by rw [hm]; show 0 < min n' 16; omega
          have hsl2 := fun W => sl_from W A' n' c' m hm2
          have hdr := isB_drop hin hm2
          have hln := hin.len
          have hbk := blk16 hln hm
          have hac := absorb_cons X (N2 h' l2) (l := l') (by omega)
          have hdd : l'.drop m = l'.drop 16 := by
            rcases Nat.lt_or_ge n' 16 with h | h
            · rw [List.drop_of_length_le (by have : m = n' := by rw [hm]; show min n' 16 = n'; omega
                                             omega), List.drop_of_length_le (by omega)]
            · rw [show m = 16 by rw [hm]; show min n' 16 = 16; omega]
          rw [hdd] at hdr
          have hpb : Byt (pad16 (l'.take 16)) := pad16_byt (byt_take hin.2 16)
          have hpl : (pad16 (l'.take 16)).length = 16 := pad16_len (by simp; omega)
          have hof := fun W => of2_any (pad16 (l'.take 16)) hpb hpl W
          have hPX := numB_lt16 hpb hpl
          obtain ⟨yh, yl, hyh, hyl, hyN, hye⟩ := el_parts _ hPX
          rw [hye] at hof
          rw [hac, ← hyN, ← N2_xor hl2 hyl] at hab
          generalize pad16 (l'.take 16) = pd at *
          generalize l'.drop 16 = r at *
          have htm := fun W => times2_any (h' ^^^ yh) (l2 ^^^ yl) xh xl (xor_lt64 hh' hyh) (xor_lt64 hl2 hyl) hxh hxl W
          have hPM := hmul_lt (x := N2 (h' ^^^ yh) (l2 ^^^ yl)) HX.out
          rw [HXN.out] at htm
          obtain ⟨zh, zl, hzh, hzl, hzN, hze⟩ := el_parts _ hPM
          rw [hze] at htm
          rw [← hzN] at hab
          have q6 := xor_u64 h' yh hh' hyh
          have q7 := xor_u64 l2 yl hl2 hyl
          generalize h' ^^^ yh = xa at *
          generalize l2 ^^^ yl = xb at *
          have HIN := Lib.hid hin
          have HST := Lib.hid hst
          have HAB := Lib.hid hab
          have HDR := Lib.hid hdr
          have HOF2 := Lib.hid hof
          have HTM := Lib.hid htm
          have HM := Lib.hid hm
          have HBK := Lib.hid hbk
          have HPL := Lib.hid hpl
          have HNB := Lib.hid hnb
          have HP := Lib.hid hpos
          have HM2 := Lib.hid hm2
          have HM3 := Lib.hid hm3
          clear hin hst hab hdr hof htm hm hbk hpl hpb hnb hac hdd hye hyN hze hzN hPM hPX hln hpos hm2 hm3
          have XB : Hid (Bk (wr.alloc (.cells (bts z16) 365)) wr.heap.size 365 z16) := Lib.hid (Bk.newAt _ z16 rfl)
          have XG : Hid (g + 1 + 1 < wr.heap.size) := Lib.hid HST.out.lt
          have XS := Lib.hid (HST.out.alloc (.cells (bts z16) 365))
          have XI := Lib.hid (HIN.out.ab XS.out.below)
          go_wp2_with (first
            | ((with_reducible refine wpList_copyM (o := ⟨some 30, .call ⟨.builtin .copy, _, _⟩, _, _, _, _⟩) rfl (.tmp 28) (.tmp 29) ?_ wr.heap.size 0 16 16 m (cur := z16) (t := 365) ?_ ?_ (A := A') (n := n') (c := c') (l := l') ?_ ?_ ?_ ?_ ?_ pd ?_ ?_)
               · rfl
               · exact XB.out
               · rfl
               · rfl
               · exact XI.out
               · exact HP.out
               · exact HM.out
               · (have h1 : m ≤ 16 := by rw [HM.out]; exact Nat.min_le_right _ _
                  show 0 + m ≤ 16; omega)
               · exact HBK.out
               intro w5 hw5
               have Y1 : Hid (Bk w5 wr.heap.size 365 pd) := Lib.hid (by rw [hw5]; exact XB.out.row _)
               have Y2 : Hid (GsSt w.heap.size g w w5 xh xl (.slice aA an ac) (.slice tA tn tc) h' l2) := Lib.hid (by rw [hw5]; exact XS.out.rowFar XG.out _)
               clear hw5)
            | (refine wpList_loadB (l := pd) (o := ⟨some 34, _, _, _, _, _⟩) rfl 365 (.tmp 11) rfl wr.heap.size rfl (t := 365) ?_ Tryz.underlying365 (by rw [HPL.out]; exact sz16) ?_
               · exact Y1.out))
          refine (HOF2.out w5).mono ?_
          rintro e w6 ⟨rfl, hb6⟩
          have V1 := Lib.hid (Y2.out.ab hb6)
          clear hb6 HOF2 Y1 Y2 XB XG XS XI HBK HPL hsl2
          go_wp2_with ((with_reducible refine wpList_store2 (o := ⟨none, .store _ (.tmp 13) (.tmp 35), _, _, _, _⟩) rfl (.tmp 13) (.tmp 35) ?_ w6.heap.size ?_ yh yl ?_ (h0 := 0) (l0 := 0) ?_ ?_)
                       · rfl
                       · rfl
                       · rfl
                       · exact Ek.newAt _ 0 0 rfl
                       intro w7 hw7
                       have V2 : Hid (GsSt w.heap.size g w w7 xh xl (.slice aA an ac) (.slice tA tn tc) h' l2) := Lib.hid (by rw [hw7]; exact (V1.out.alloc _).rowFar V1.out.lt _)
                       have V3 : Ek w7 w6.heap.size yh yl := by rw [hw7]; exact (show Ek (w6.alloc (.cells (e2 0 0) 420)) w6.heap.size 0 0 from Ek.newAt _ 0 0 rfl).row _ _
                       have d0 := V3.c0
                       have d1 := V3.c1
                       have e0 := V2.out.sb.c0
                       have e1 := V2.out.sb.c1
                       have f0 := V2.out.hb.c0
                       have f1 := V2.out.hb.c1
                       clear hw7 V3)
          refine (HTM.out w7).mono ?_
          rintro e w8 ⟨rfl, hb8⟩
          have V4 := Lib.hid (V2.out.ab hb8)
          clear hb8 HTM V2 V1 d0 d1 e0 e1 f0 f1 q6 q7
          go_wp2_with ((with_reducible refine wpList_store2 (o := ⟨none, .store _ (.tmp 8) (.tmp 48), _, _, _, _⟩) rfl (.tmp 8) (.tmp 48) ?_ (g + 1) ?_ zh zl ?_ (h0 := h') (l0 := l2) ?_ ?_)
                       · rfl
                       · rfl
                       · rfl
                       · exact V4.out.sb
                       intro w9 hw9
                       have V5 : Hid (GsSt w.heap.size g w w9 xh xl (.slice aA an ac) (.slice tA tn tc) zh zl) := Lib.hid (by rw [hw9]; exact V4.out.sum zh zl)
                       clear hw9)
          go_roundw
          case rel =>
            repeat apply Exists.intro
            exact ⟨⟨_, _, _, r, zh, zl, rfl, HDR.out, by have := HNB.out; omega, hzh, hzl, HAB.out, V5.out⟩, rfl⟩
          case measure => show n' - m < n'; have := HM2.out; have := HM3.out; omega
        · obtain rfl : n' = 0 := by omega
          have h0 := List.eq_nil_of_length_eq_zero hin.len
          subst h0
          rw [absorb_nil] at hab
          have HAB := Lib.hid hab
          have HST := Lib.hid hst
          clear hab hst hin hpos
          go_wp2_with fail
          go_roundw
          case rel => exact ⟨i + 1, h', l2, by omega, by go_num, hh', hl2, HAB.out, HST.out⟩
          case measure => simp [intOf]; omega
    · obtain rfl : i = 2 := by omega
      have e0 := hst.sb.c0
      have e1 := hst.sb.c1
      have f0 := hst.hb.c0
      have f1 := hst.hb.c1
      have q6 := xor_len sh an hsh HAL.out
      have q7 := xor_len sl tn hsl HTL.out
      have b1 : sh ^^^ (8 * an) < 18446744073709551616 := xor_lt64 hsh (by have := HAL.out; omega)
      have b2 : sl ^^^ (8 * tn) < 18446744073709551616 := xor_lt64 hsl (by have := HTL.out; omega)
      have hN : N2 (sh ^^^ (8 * an)) (sl ^^^ (8 * tn)) = G 2 ^^^ N2 (8 * an) (8 * tn) := by rw [N2_xor hsl (by have := HTL.out; omega), hG]
      have htm := fun W => times2_any (sh ^^^ (8 * an)) (sl ^^^ (8 * tn)) xh xl b1 b2 hxh hxl W
      rw [hN, HXN.out] at htm
      have hPM := hmul_lt (x := G 2 ^^^ N2 (8 * an) (8 * tn)) HX.out
      obtain ⟨zh, zl, hzh, hzl, hzN, hze⟩ := el_parts _ hPM
      rw [hze] at htm
      have hby := fun W => bytes_any zh zl hzh hzl W
      rw [hzN] at hby
      generalize sh ^^^ (8 * an) = xa at *
      generalize sl ^^^ (8 * tn) = xb at *
      obtain ⟨Z, hZ⟩ : ∃ Z, Z = digB (hmul (G 2 ^^^ N2 (8 * an) (8 * tn)) X) 16 := ⟨_, rfl⟩
      rw [← hZ] at hby
      have LZ : Hid (Z.length = 16) := Lib.hid (by rw [hZ, digB_len])
      have HZ := Lib.hid hZ
      have HTM := Lib.hid htm
      have HBY := Lib.hid hby
      have HST := Lib.hid hst
      clear htm hby hst hG hN hPM hze hzN hlt hZ
      go_wp2_with fail
      refine (HTM.out wr).mono ?_
      rintro e w8 ⟨rfl, hb8⟩
      have V4 := Lib.hid (HST.out.ab hb8)
      clear hb8 HTM HST e0 e1 f0 f1 q6 q7
      go_wp2_with fail
      refine (HBY.out w8).mono ?_
      rintro e w9 ⟨rfl, hb9⟩
      have V5 := Lib.hid (V4.out.ab hb9)
      clear hb9 HBY V4
      go_wp2_with (refine wpList_storeB (l := z16) (o := ⟨none, .store _ (.tmp 6) (.tmp 67), _, _, _, _⟩) rfl 365 (.tmp 6) (.tmp 67) rfl (w.heap.size + 1) rfl Z rfl (t := 365) ?_ (by rw [LZ.out]; exact sz16) (by rw [LZ.out]; rfl) ?_
                   · exact V5.out.rb)
      refine bodyPost_ret (results_bts Tryz.results263 _ _ _ rfl (V5.out.rb.row Z) Tryz.underlying365 (by rw [LZ.out]; exact sz16)) rfl ?_
      exact ⟨by rw [HZ.out], Below.row V5.out.below (by omega) _⟩
end Go.Proofs.YtakgebbeknfplaaGreat
