/-
  SEALS THROUGH A LOG: a parameter []Act opened; makes of noughts; long of one.
-/
import Derived.Test.YtmeakfocppooiaaLgD
import Derived.Test.YtmeakfocppooiaaOpn
import Derived.Test.YtmeakfocppooiaaSeG
import Derived.Deep.Slices
namespace Go.Proofs.Ytmeakfocppooiaa
open Go.RowKit Go.ChangeShapes Go.WideShapes
set_option linter.unusedVariables false

/-- something that is to be sealed -/
structure AArg where
  a : Option Addr
  n : Nat
  c : Nat
  k : List Nat
  l : Lb
  f : Nat
  s : Bool
def acv (q : AArg) : Array Value := #[.slice q.a q.n q.c, .int .u32 (q.l.ten : Int), .int .u8 (q.l.k : Int), .int .u8 (q.l.lv : Int), .int .u32 (q.l.pg : Int), .int .u64 (q.l.cm : Int), .int .u16 (q.l.gn : Int), .int .u8 (q.f : Int), .bool q.s]
structure AcB (w : World) (A : Option Addr) (n c : Nat) (qs : List AArg) : Prop where
  len : qs.length = n
  cap : n ≤ c
  max : c ≤ maxLen
  cel : ∀ (i : Nat) (q : AArg), qs[i]? = some q → ∃ x, A = some x ∧ x.block < w.heap.size ∧ (∀ (j : Nat) (u : Value), (acv q)[j]? = some u → w.cell? (x.add (i * 9 + j)) = some u) ∧ q.l.Ok ∧ q.f < 256 ∧ IsB w q.a q.n q.c q.k
section
variable {H : Type} {enc : TypeId × Value → H} {P : Program} {W : World}
theorem trod_struct4 {t : TypeId} {f0 f1 f2 f3 : Field} {base : Nat} {spare : Nat → Bool} {held : Bool} {fuel : Nat} {cs : List Value} {x : DataW H × List MemPlace} (ht : P.underlying t = some (.struct #[f0, f1, f2, f3])) (h : DataW.trod enc P W base spare held fuel t cs = some x) :
    ∃ y0 y1 y2 y3 n, x = (.agg [y0.1, y1.1, y2.1, y3.1], y0.2 ++ (y1.2 ++ (y2.2 ++ y3.2))) ∧ cs.length = P.cellsOf t ∧ DataW.trod enc P W base spare held n f0.type ((cs.drop f0.offset).take (P.cellsOf f0.type)) = some y0 ∧
      DataW.trod enc P W base spare held n f1.type ((cs.drop f1.offset).take (P.cellsOf f1.type)) = some y1 ∧ DataW.trod enc P W base spare held n f2.type ((cs.drop f2.offset).take (P.cellsOf f2.type)) = some y2 ∧
      DataW.trod enc P W base spare held n f3.type ((cs.drop f3.offset).take (P.cellsOf f3.type)) = some y3 := by
  obtain ⟨xs, n, _, rfl, hl, hlen, hf⟩ := DataW.trod_struct ht h
  match xs, hlen with
  | [y0, y1, y2, y3], _ => exact ⟨y0, y1, y2, y3, n, by simp, hl, by simpa using hf 0 f0 rfl, by simpa using hf 1 f1 rfl, by simpa using hf 2 f2 rfl, by simpa using hf 3 f3 rfl⟩
theorem trod_struct3a {t : TypeId} {f0 f1 f2 : Field} {base : Nat} {spare : Nat → Bool} {held : Bool} {fuel : Nat} {cs : List Value} {x : DataW H × List MemPlace} (ht : P.underlying t = some (.struct #[f0, f1, f2])) (h : DataW.trod enc P W base spare held fuel t cs = some x) :
    ∃ y0 y1 y2 n, x = (.agg [y0.1, y1.1, y2.1], y0.2 ++ (y1.2 ++ y2.2)) ∧ cs.length = P.cellsOf t ∧ DataW.trod enc P W base spare held n f0.type ((cs.drop f0.offset).take (P.cellsOf f0.type)) = some y0 ∧
      DataW.trod enc P W base spare held n f1.type ((cs.drop f1.offset).take (P.cellsOf f1.type)) = some y1 ∧ DataW.trod enc P W base spare held n f2.type ((cs.drop f2.offset).take (P.cellsOf f2.type)) = some y2 := by
  obtain ⟨xs, n, _, rfl, hl, hlen, hf⟩ := DataW.trod_struct ht h
  match xs, hlen with
  | [y0, y1, y2], _ => exact ⟨y0, y1, y2, n, by simp, hl, by simpa using hf 0 f0 rfl, by simpa using hf 1 f1 rfl, by simpa using hf 2 f2 rfl⟩
theorem bool_trod {t : TypeId} {fuel : Nat} {cs : List Value} {x : DataW H × List MemPlace} (ht : P.underlying t = some .bool)
    (h : DataW.trod enc P W 0 (fun _ => true) true fuel t cs = some x) : ∃ b, cs = [.bool b] := by
  cases fuel with
  | zero => simp [DataW.trod] at h
  | succ fuel =>
    unfold DataW.trod at h
    rw [ht] at h
    match cs, h with
    | [.bool b], _ => exact ⟨b, rfl⟩
theorem nat_int {k : IntKind} {z : Int} {m : Nat} (h : (Lit.int k z).wf = true) (h0 : k.min = 0) (hm : k.max < (m : Int)) : ∃ n : Nat, z = (n : Int) ∧ n < m := by
  simp only [Lit.wf, Bool.and_eq_true, decide_eq_true_eq] at h
  exact ⟨z.toNat, by omega, by omega⟩
end
section
variable {H : Type} {enc : TypeId × Value → H} {W : World}
theorem list6a {α : Type} {cs : List α} (h : cs.length = 6) : ∃ c0 c1 c2 c3 c4 c5, cs = [c0, c1, c2, c3, c4, c5] := by
  match cs, h with
  | [c0, c1, c2, c3, c4, c5], _ => exact ⟨c0, c1, c2, c3, c4, c5, rfl⟩
theorem list9a {α : Type} {cs : List α} (h : cs.length = 9) : ∃ c0 c1 c2 c3 c4 c5 c6 c7 c8, cs = [c0, c1, c2, c3, c4, c5, c6, c7, c8] := by
  match cs, h with
  | [c0, c1, c2, c3, c4, c5, c6, c7, c8], _ => exact ⟨c0, c1, c2, c3, c4, c5, c6, c7, c8, rfl⟩
set_option maxRecDepth 100000 in
theorem label_trod {fuel : Nat} {cs : List Value} {x : DataW H × List MemPlace} (h : DataW.trod enc Try.prog W 0 (fun _ => true) true fuel 35 cs = some x) : ∃ l : Lb, cs = (lab l).toList ∧ l.Ok := by
  obtain ⟨y0, y1, y2, y3, n, hx, hl, h0, h1, h2, h3⟩ := trod_struct4 Try.underlying35 h
  obtain ⟨z0, z1, z2, m, hy, hl2, g0, g1, g2⟩ := trod_struct3a Try.underlying33 h3
  have c6 : Try.prog.cellsOf 35 = 6 := by kernel_rfl
  have c3 : Try.prog.cellsOf 33 = 3 := by kernel_rfl
  have cu : Try.prog.cellsOf 29 = 1 := by kernel_rfl
  have ch : Try.prog.cellsOf 31 = 1 := by kernel_rfl
  have cl : Try.prog.cellsOf 30 = 1 := by kernel_rfl
  have c8 : Try.prog.cellsOf 5 = 1 := by kernel_rfl
  rw [c6] at hl
  obtain ⟨v0, v1, v2, v3, v4, v5, rfl⟩ := list6a hl
  simp only [cu, ch, cl, c8, c3] at h0 h1 h2 g0 g1 g2
  obtain ⟨n0, e0, w0⟩ := int_trod Try.underlying29 h0
  obtain ⟨n1, e1, w1⟩ := int_trod Try.underlying5 h1
  obtain ⟨n2, e2, w2⟩ := int_trod Try.underlying5 h2
  obtain ⟨n3, e3, w3⟩ := int_trod Try.underlying29 g0
  obtain ⟨n4, e4, w4⟩ := int_trod Try.underlying30 g1
  obtain ⟨n5, e5, w5⟩ := int_trod Try.underlying31 g2
  simp at e0 e1 e2 e3 e4 e5
  subst e0 e1 e2 e3 e4 e5
  obtain ⟨a0, rfl, b0⟩ := nat_int (m := 4294967296) w0 rfl (by decide)
  obtain ⟨a1, rfl, b1⟩ := nat_int (m := 256) w1 rfl (by decide)
  obtain ⟨a2, rfl, b2⟩ := nat_int (m := 256) w2 rfl (by decide)
  obtain ⟨a3, rfl, b3⟩ := nat_int (m := 4294967296) w3 rfl (by decide)
  obtain ⟨a4, rfl, b4⟩ := nat_int (m := 18446744073709551616) w4 rfl (by decide)
  obtain ⟨a5, rfl, b5⟩ := nat_int (m := 65536) w5 rfl (by decide)
  exact ⟨⟨a0, a1, a2, a3, a4, a5⟩, rfl, b0, b1, b2, b3, b4, b5⟩
set_option maxRecDepth 100000 in
theorem act_trod {fuel : Nat} {cs : List Value} {x : DataW H × List MemPlace} (h : DataW.trod enc Try.prog W 0 (fun _ => true) true fuel 37 cs = some x) (hlt : ∀ q ∈ x.2, q.block < W.heap.size) :
    ∃ q : AArg, cs = (acv q).toList ∧ q.l.Ok ∧ q.f < 256 ∧ IsB W q.a q.n q.c q.k := by
  obtain ⟨y0, y1, y2, y3, n, hx, hl, h0, h1, h2, h3⟩ := trod_struct4 Try.underlying37 h
  have c9 : Try.prog.cellsOf 37 = 9 := by kernel_rfl
  have c6 : Try.prog.cellsOf 35 = 6 := by kernel_rfl
  have cb : Try.prog.cellsOf 28 = 1 := by kernel_rfl
  have c8 : Try.prog.cellsOf 5 = 1 := by kernel_rfl
  have co : Try.prog.cellsOf 4 = 1 := by kernel_rfl
  have hp : x.2 = y0.2 ++ (y1.2 ++ (y2.2 ++ y3.2)) := by simpa using congrArg (·.2) hx
  rw [c9] at hl
  obtain ⟨v0, v1, v2, v3, v4, v5, v6, v7, v8, rfl⟩ := list9a hl
  simp only [c6, cb, c8, co] at h0 h1 h2 h3
  obtain ⟨A, kn, kc, k, e0, i0⟩ := isB_trod Try.underlying28 Try.underlying5 c8 h0 (fun q hq => hlt q (by rw [hp]; simp [hq]))
  obtain ⟨l, e1, l1⟩ := label_trod h1
  obtain ⟨f, e2, w2⟩ := int_trod Try.underlying5 h2
  obtain ⟨s, e3⟩ := bool_trod Try.underlying4 h3
  obtain ⟨f', rfl, hf⟩ := nat_int (m := 256) w2 rfl (by decide)
  simp [lab] at e0 e1 e2 e3
  obtain ⟨q1, q2, q3, q4, q5, q6⟩ := e1
  subst e0 e2 e3 q1 q2 q3 q4 q5 q6
  exact ⟨⟨A, kn, kc, k, l, f', s⟩, rfl, l1, hf, i0⟩
theorem list_ofA {α : Type} {Q : Nat → α → Prop} : ∀ (n : Nat), (∀ i, i < n → ∃ q, Q i q) → ∃ l : List α, l.length = n ∧ ∀ (i : Nat) (q : α), l[i]? = some q → Q i q
  | 0, _ => ⟨[], rfl, fun i q h => by simp at h⟩
  | n + 1, h => by
    obtain ⟨l, hl, hq⟩ := list_ofA n fun i hi => h i (by omega)
    obtain ⟨q, hn⟩ := h n (by omega)
    refine ⟨l ++ [q], by simp [hl], fun i p hp => ?_⟩
    rcases Nat.lt_or_ge i n with hi | hi
    · exact hq i p (by rwa [List.getElem?_append_left (by omega)] at hp)
    · rw [List.getElem?_append_right (by omega)] at hp
      obtain ⟨hj, hp⟩ := List.getElem?_eq_some_iff.1 hp
      simp at hj hp
      subst hp
      obtain rfl : i = n := by omega
      exact hn
set_option maxRecDepth 100000 in
theorem open_acts {base : Nat} {v : Value} {d : DataW H} {p : List MemPlace} (hk : Value.okWide Try.prog W .any base 22 v)
    (h : DataW.Trod enc Try.prog W 0 (fun _ => true) true 22 v d p) (hlt : ∀ x ∈ p, x.block < W.heap.size) : ∃ A n c qs, v = .slice A n c ∧ AcB W A n c qs := by
  obtain ⟨A, n, c, rfl⟩ := okWide_slice Try.underlying22 hk
  have c9 : Try.prog.cellsOf 37 = 9 := by kernel_rfl
  obtain ⟨fuel, hf⟩ := h
  rcases Go.Deep.open_slice Try.underlying22 hf with ⟨hcs, hx⟩ | ⟨a, len, cap, m, nn, D, Pl, hcs, hb, hl, hm, hmm, hx, hi⟩
  · simp [Value.cells] at hcs
    obtain ⟨rfl, rfl, rfl⟩ := hcs
    exact ⟨none, 0, 0, [], rfl, rfl, Nat.le_refl _, Nat.zero_le _, fun i q hq => by simp at hq⟩
  · simp [Value.cells] at hcs
    obtain ⟨rfl, rfl, rfl⟩ := hcs
    rw [c9] at hi hx
    have hmc : m = c := by simpa using hmm
    subst hmc
    have hp : p = MemPlace.row a (m * 9) ++ (List.range m).flatMap Pl := by simpa using congrArg (·.2) hx
    have hkey : ∀ i, i < n → ∃ q : AArg, (∀ (j : Nat) (u : Value), (acv q)[j]? = some u → W.cell? (a.add (i * 9 + j)) = some u) ∧ q.l.Ok ∧ q.f < 256 ∧ IsB W q.a q.n q.c q.k := fun i hin => by
      obtain ⟨cs', hc, ht⟩ := hi i (by omega)
      obtain ⟨_, hcl, hat⟩ := World.cells?_some hc
      obtain ⟨q, rfl, h1, h2, h3⟩ := act_trod ht (fun x hx => hlt x (by
        rw [hp]
        exact List.mem_append_right _ (List.mem_flatMap.2 ⟨i, List.mem_range.2 (by omega), hx⟩)))
      refine ⟨q, fun j u hu => ?_, h1, h2, h3⟩
      have hj : j < 9 := (Array.getElem?_eq_some_iff.1 hu).1
      have a0 := hat j (by simpa [acv] using hj)
      rw [Go.Deep.add_add] at a0
      rw [a0]
      simpa using hu
    obtain ⟨ks, hkl, hks⟩ := list_ofA n hkey
    refine ⟨some a, n, m, ks, rfl, hkl, hl, hm, fun i q hq => ?_⟩
    have hin : i < n := by rw [← hkl]; exact (List.getElem?_eq_some_iff.1 hq).1
    refine ⟨a, rfl, ?_, hks i q hq⟩
    have h1 : MemPlace.cell a.block a.off ∈ MemPlace.row a (m * 9) := List.mem_map.2 ⟨0, List.mem_range.2 (by omega), by simp⟩
    exact hlt _ (by rw [hp]; exact List.mem_append_left _ h1)
end
theorem wpList_makeB {rest : List Oper} {ops : Array Oper} {o : Oper} {a : Act} {w : World} {Q : Exit → Act → World → Prop} (hgd : o.guard = none) (n : Nat) (hn : n ≤ 281474976710656) (ho : o.op = .makeSlice 28 (.const (.int .i64 (n : Int))) (.const (.int .i64 (n : Int))))
    (h : ∀ w', Bk w' w.heap.size 5 (zeros n) → Below w.heap.size w w' → wpList Try.prog ops Q rest (a.put o.dst (.slice (some ⟨w.heap.size, 0, none⟩) n n)) w') : wpList Try.prog ops Q (o :: rest) a w := by
  refine wpList_plain hgd fun K hK => ?_
  have := make_u8 n n (Nat.le_refl _) hn w
  unfold Oper.wp execOp
  simp only [ho, Act.eval, this, Sem.run_bind, Result.andThen_ok, Sem.run_pure]
  exact hK _ _ (h _ (Bk.newAt _ (zeros n) rfl) ((Below.refl _ _).alloc (Nat.le_refl _) _))
set_option maxRecDepth 100000 in
theorem long1_any (aA : Option Addr) (an ac g : Nat) (w : World) (h : CbB w g 28 #[.slice aA an ac]) :
    Calls Try.prog 15 #[.slice (some ⟨g, 0, none⟩) 1 1] w fun e w' => e = .returned (.bool (decide (4096 < an))) ∧ w = w' := by
  have c0 := h.cell (k := 0) rfl
  clear h
  go_enter Try.func15, Try.ntmps15
  go_wp2_with fail
  go_loopw [3, 6] (fun _ j wr => ∃ i : Nat, i ≤ 1 ∧ j = .int .i64 i ∧ w = wr ∧ (0 < i → ¬ 4096 < an)) (fun _ j _ => 1 - (intOf j).toNat)
  case atStart => exact ⟨0, by omega, rfl, rfl, by omega⟩
  case round =>
    obtain ⟨i, hi, rfl, rfl, ha⟩ := hrel
    have : i = 0 ∨ i = 1 := by omega
    rcases this with rfl | rfl
    · by_cases h : 4096 < an
      · have hd : decide (4096 < (an : Int)) = true := by simp; omega
        have he : Hid (decide (4096 < an) = true) := Lib.hid (decide_eq_true h)
        clear h ha
        go_wp2_with fail
        go_ret
        exact ⟨by rw [he.out]; rfl, rfl⟩
      · have hd : decide (4096 < (an : Int)) = false := by simp; omega
        have he : Hid (¬ 4096 < an) := Lib.hid h
        clear h ha
        go_wp2_with fail
        go_roundw
        case rel => exact ⟨1, by omega, by go_num, by first | rfl | trivial, fun _ => he.out⟩
        case measure => simp [intOf]
    · have hf : Hid (decide (4096 < an) = false) := Lib.hid (decide_eq_false (ha (by omega)))
      clear ha
      go_wp2_with fail
      go_ret
      exact ⟨by rw [hf.out]; rfl, rfl⟩
end Go.Proofs.Ytmeakfocppooiaa
