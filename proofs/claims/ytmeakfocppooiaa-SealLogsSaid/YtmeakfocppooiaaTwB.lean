/-
  Twice OF A LOG: the walk.
-/
import Derived.Test.YtmeakfocppooiaaTwA
namespace Go.Proofs.Ytmeakfocppooiaa
open Go.RowKit
set_option linter.unusedVariables false

def labs : List Lb → List Value
  | [] => []
  | l :: r => (lab l).toList ++ labs r
theorem labs_snoc (ls : List Lb) (l : Lb) : labs (ls ++ [l]) = labs ls ++ (lab l).toList := by
  induction ls with
  | nil => simp [labs]
  | cons t r ih => rw [List.cons_append, labs, ih, labs, List.append_assoc]
theorem infoLb : (Try.prog.info? 35).map (fun i => (i.zero, i.size, i.bytes)) = some (some (.agg #[.int .u32 0, .int .u8 0, .int .u8 0, .int .u32 0, .int .u64 0, .int .u16 0]), 6, 32) := by kernel_rfl
/-- labels, one appended -/
def LsB (w : World) (B : Nat) (v : Value) (ls : List Lb) : Prop := w.ownsRow B 35 6 v ls.length (labs ls)
theorem LsB.ab {w w' : World} {B : Nat} {v : Value} {ls : List Lb} (h : LsB w B v ls) (hb : Below w.heap.size w w') : LsB w' B v ls := World.ownsRow.kept (row := none) h (grown_of hb none) (by cases hv : v.ownBlock <;> simp)
theorem wpList_appL {rest : List Oper} {ops : Array Oper} {o : Oper} {a : Act} {w : World} {Q : Exit → Act → World → Prop} (hgd : o.guard = none) (s x : Operand)
    (ho : o.op = .call { callee := .builtin .append, args := #[s, x], argTypes := #[49, 49] })
    {B G : Nat} {v : Value} {ls : List Lb} (hown : LsB w B v ls) (hs : a.eval s = v) (l : Lb) (hx : a.eval x = .slice (some ⟨G, 0, none⟩) 1 1) (hG : CbB w G 35 (lab l)) (hl : ls.length ≤ 1000) (hB : B ≤ w.heap.size)
    (h : ∀ v' w', LsB w' B v' (ls ++ [l]) → w.grownBy w' v.ownBlock → wpList Try.prog ops Q rest (a.put o.dst v') w') : wpList Try.prog ops Q (o :: rest) a w := by
  obtain ⟨i0, hi0, hz0, hz1, hz2⟩ := info_parts infoLb
  obtain ⟨v1, W1, hrun, r1, r2, _⟩ := run_append_own (P := Try.prog) w B 49 o.type 35 i0 _ 6 32 Try.underlying49 hi0 hz0 hz1 hz2 rfl (by decide) v ls.length (labs ls) hown ⟨G, 0, none⟩ 1 1 (lab l).toList rfl (row_at hG) (by simp [lab, Value.oneCell']) (by simp only [maxLen]; omega) (by omega) hB
  refine wpList_plain hgd fun K hK => ?_
  unfold Oper.wp execOp
  simp only [ho, resolve, invoke, builtin, Sem.run_bind, Sem.run_pure, Result.andThen_ok, List.map_toArray, List.map_cons, List.map_nil, hs, hx, hrun]
  refine hK _ _ (h v1 W1 ?_ r2)
  unfold LsB
  rw [labs_snoc, List.length_append, List.length_singleton]
  exact r1
theorem twR_snoc (s : Sl) : ∀ (l pre : List Sl), twR pre (l ++ [s]) = twR pre l ++ (bif othr (pre ++ l) s then [s.l] else [])
  | [], pre => by simp [twR]
  | t :: r, pre => by
    rw [List.cons_append, twR, twR_snoc s r (pre ++ [t]), twR, List.append_assoc]
    simp [List.append_assoc]
/-- what the two maps hold behind so many -/
def FstM (pre : List Sl) (m : List ((Nat × Nat) × Value)) : Prop := ∀ x, lookL x m = (firstS pre x).map fun f => .agg (slc f)
def MixM (pre : List Sl) (m : List ((Nat × Nat) × Value)) : Prop := ∀ x, lookL x m = if mixdS pre x = true then some (.bool true) else none
theorem look_put {κ : Type} [DecidableEq κ] (l : List (κ × Value)) (x y : κ) (v : Value) : lookL y (putL x v l) = if x = y then some v else lookL y l := by
  unfold putL
  cases hl : lookL x l with
  | none =>
    simp only [Option.isSome_none, Bool.false_eq_true, if_false]
    unfold lookL at hl ⊢
    rw [List.find?_append]
    by_cases e : x = y
    · subst e
      rw [Option.map_eq_none_iff] at hl
      rw [hl]
      simp
    · rw [if_neg e]
      cases l.find? (fun p => decide (p.1 = y)) <;> simp [e]
  | some u =>
    simp only [Option.isSome_some, if_true]
    unfold lookL at hl ⊢
    induction l with
    | nil => simp at hl
    | cons p r ih =>
      rw [List.map_cons]
      by_cases e : p.1 = x
      · rw [if_pos e]
        by_cases e2 : x = y
        · simp [e2]
        · rw [List.find?_cons_of_neg (by simpa using e2), if_neg e2, List.find?_cons_of_neg (by rw [e]; simpa using e2)]
          have hm : ∀ r : List (κ × Value), ((r.map fun q => if q.1 = x then (x, v) else q).find? fun q => decide (q.1 = y)) = r.find? fun q => decide (q.1 = y) := fun r => by
            induction r with
            | nil => rfl
            | cons q t ih2 =>
              rw [List.map_cons]
              by_cases e3 : q.1 = x
              · rw [if_pos e3, List.find?_cons_of_neg (by simpa using e2), List.find?_cons_of_neg (by rw [e3]; simpa using e2)]
                exact ih2
              · rw [if_neg e3]
                by_cases e4 : q.1 = y
                · rw [List.find?_cons_of_pos (by simpa using e4), List.find?_cons_of_pos (by simpa using e4)]
                · rw [List.find?_cons_of_neg (by simpa using e4), List.find?_cons_of_neg (by simpa using e4)]
                  exact ih2
          rw [hm]
      · rw [if_neg e]
        rw [List.find?_cons_of_neg (by simpa using e)] at hl
        by_cases e4 : p.1 = y
        · have e5 : x ≠ y := fun e6 => e (e4.trans e6.symm)
          rw [List.find?_cons_of_pos (by simpa using e4), List.find?_cons_of_pos (by simpa using e4), if_neg e5]
        · rw [List.find?_cons_of_neg (by simpa using e4), List.find?_cons_of_neg (by simpa using e4)]
          exact ih hl
theorem FstM.new {pre : List Sl} {m : List ((Nat × Nat) × Value)} (h : FstM pre m) {s : Sl} (hn : firstS pre (nonS s) = none) : FstM (pre ++ [s]) (putL (nonS s) (.agg (slc s)) m) := fun x => by
  rw [look_put, firstS_snoc, h x]
  by_cases e : nonS s = x
  · rw [if_pos e, ← e, hn]; simp
  · rw [if_neg e]
    cases firstS pre x <;> simp [e]
theorem FstM.old {pre : List Sl} {m : List ((Nat × Nat) × Value)} (h : FstM pre m) {s f : Sl} (hn : firstS pre (nonS s) = some f) : FstM (pre ++ [s]) m := fun x => by
  rw [firstS_snoc, h x]
  by_cases e : nonS s = x
  · rw [← e, hn]
  · cases firstS pre x <;> simp [e]
theorem MixM.new {pre : List Sl} {m : List ((Nat × Nat) × Value)} (h : MixM pre m) {s : Sl} (hn : firstS pre (nonS s) = none) : MixM (pre ++ [s]) m := fun x => by
  by_cases e : nonS s = x
  · rw [h x, ← e, mixdS_new hn]
    have : mixdS pre (nonS s) = false := by unfold mixdS; rw [hn]
    rw [this]
  · rw [h x, mixdS_far e]
theorem MixM.yes {pre : List Sl} {m : List ((Nat × Nat) × Value)} (h : MixM pre m) {s f : Sl} (hn : firstS pre (nonS s) = some f) (ho : othr pre s = true) : MixM (pre ++ [s]) (putL (nonS s) (.bool true) m) := fun x => by
  rw [look_put]
  by_cases e : nonS s = x
  · rw [if_pos e, ← e, mixdS_old hn, ho]; rfl
  · rw [if_neg e, h x, mixdS_far e]
theorem MixM.no {pre : List Sl} {m : List ((Nat × Nat) × Value)} (h : MixM pre m) {s f : Sl} (hn : firstS pre (nonS s) = some f) (ho : othr pre s = false) : MixM (pre ++ [s]) m := fun x => by
  by_cases e : nonS s = x
  · have h1 := othr_some hn
    rw [ho] at h1
    have h2 : mixdS pre (nonS s) = false := by
      cases hm : mixdS pre (nonS s)
      · rfl
      · rw [hm, Bool.true_or] at h1; cases h1
    rw [h x, ← e, h2, mixdS_old hn, ho]
  · rw [h x, mixdS_far e]
theorem zero_sl (w : World) : (zeroValue 130).run Try.prog w = .ok (.agg #[.int .u32 0, .int .u8 0, .int .u8 0, .int .u32 0, .int .u64 0, .int .u16 0, .string ByteArray.empty, .string ByteArray.empty, .string ByteArray.empty]) w := by kernel_rfl
theorem zero_bo (w : World) : (zeroValue 4).run Try.prog w = .ok (.bool false) w := by kernel_rfl
def SlOk (s : Sl) : Prop := s.l.Ok ∧ Byt s.key ∧ Byt s.pay ∧ Byt s.blk
theorem SlOk.no {s : Sl} (h : SlOk s) : noOk (nonS s) := by
  obtain ⟨h1, h2, h3, h4, h5, h6⟩ := h.1
  exact ⟨by simp only [nonS]; omega, by simp only [nonS]; omega⟩
theorem row_notMap {w : World} {κ : Type} {kv : κ → Value} {ok : κ → Prop} {B m n sz : Nat} {e : TypeId} {v : Value} {xs : List Value} {vs : List (κ × Value)} (h : w.ownsRow B e sz v n xs) (hm : MapB kv ok w m vs) : v.ownBlock ≠ some m := by
  obtain ⟨es, c, h1, _⟩ := hm
  intro q
  rcases h.2 with ⟨rfl, _⟩ | ⟨g, cap, cur, rfl, _, hh, _⟩
  · cases q
  · have : g = m := by injection q
    subst this
    rw [h1] at hh
    cases hh
theorem LsB.put {w w' : World} {κ : Type} {kv : κ → Value} {ok : κ → Prop} {B m : Nat} {v : Value} {ls : List Lb} {vs : List (κ × Value)} (h : LsB w B v ls) (hm : MapB kv ok w m vs) (hg : w.grownBy w' (some m)) : LsB w' B v ls :=
  World.ownsRow.kept h hg (.inr (row_notMap h hm))
theorem below_grownO {B : Nat} {a b c : World} {r : Option Nat} (h : Below B a b) (k : b.grownBy c r) (hr : ∀ g, r = some g → B ≤ g) (hs : B ≤ b.heap.size) : Below B a c := h.trans ⟨k.os, k.tape, k.output, k.size, fun i hi => k.block i (by omega) (fun e => by have := hr i e.symm; omega)⟩
theorem twR_len : ∀ (l pre : List Sl), (twR pre l).length ≤ l.length
  | [], pre => Nat.le_refl _
  | s :: r, pre => by
    have := twR_len r (pre ++ [s])
    rw [twR, List.length_append, List.length_cons]
    cases othr pre s <;> simp <;> omega
set_option maxRecDepth 100000 in
set_option maxHeartbeats 4000000 in
theorem twice_any (B g : Nat) (all : List Sl) (w : World) (h : LgB w B g all) (hl : all.length ≤ 1000) (hok : ∀ s ∈ all, SlOk s) :
    Calls Try.prog 24 #[.pointer (some ⟨g, 0, none⟩)] w fun e w' => ∃ v, e = .returned v ∧ LsB w' w.heap.size v (twR [] all) ∧ Below w.heap.size w w' := by
  obtain ⟨u, hbox, hrow⟩ := h.box
  have hmm : ∀ W : World, (Instr.makeMap 136 none).run Try.prog W = .ok (.map (some W.heap.size)) (W.alloc (.map #[] 0)) := fun _ => rfl
  have hmm2 : ∀ W : World, (Instr.makeMap 137 none).run Try.prog W = .ok (.map (some W.heap.size)) (W.alloc (.map #[] 0)) := fun _ => rfl
  have C0 := hbox.cell (k := 0) rfl
  have HC : Hid (∀ (i : Nat) (s : Sl), all[i]? = some s → ∃ gb cap, u = .slice (some ⟨gb, 0, none⟩) all.length cap ∧ gb < w.heap.size ∧ ∀ (j : Nat) (u : Value), (slc s)[j]? = some u → w.cell? ⟨gb, i * 9 + j, none⟩ = some u) := Lib.hid fun i s hs' => by
    have hi' := (List.getElem?_eq_some_iff.1 hs').1
    rcases hrow.2 with ⟨_, h0⟩ | ⟨gb, cap, cur, rfl, hg, hh, _⟩
    · omega
    · refine ⟨gb, cap, rfl, (Array.getElem?_eq_some_iff.1 hh).1, fun j u hu => ?_⟩
      have := hrow.cells (g := gb) rfl (i * 9 + j) u (slvs_at all i s hs' j u hu)
      rwa [Addr.add_mid, Nat.zero_add] at this
  obtain ⟨A0, c0, rfl⟩ := row_shape hrow
  obtain ⟨k, hk⟩ : ∃ k, k = all.length := ⟨_, rfl⟩
  rw [← hk] at HC hl C0
  have HN := Lib.hid hk
  have HOK := Lib.hid hok
  have hkb : (k : Int) ≤ 1000 := by omega
  have HL := Lib.hid hl
  have ha1 : Below w.heap.size w (w.alloc (.map #[] 0)) := (Below.refl _ _).alloc (Nat.le_refl _) _
  have B0 : Hid (Below w.heap.size w ((w.alloc (.map #[] 0)).alloc (.map #[] 0))) := Lib.hid (ha1.alloc (by simp) _)
  have MA : Hid (MapB noV noOk ((w.alloc (.map #[] 0)).alloc (.map #[] 0)) w.heap.size []) := Lib.hid ((MapB.new noV noOk w).alloc _)
  have MB : Hid (MapB noV noOk ((w.alloc (.map #[] 0)).alloc (.map #[] 0)) (w.heap.size + 1) []) := Lib.hid (by
    have := MapB.new noV noOk (w.alloc (.map #[] 0))
    simpa using this)
  have C1 : ((w.alloc (.map #[] 0)).alloc (.map #[] 0)).cell? ⟨g, 0, none⟩ = some (.slice A0 k c0) := (World.cell?_of_block (B0.out.block _ hbox.lt)).trans C0
  clear hrow hbox h hl hk C0 hok ha1
  go_enter Try.func24, Try.ntmps24
  go_wp2_with fail
  go_loopw [20, 5] (fun z v wr => ∃ (i : Nat) (m1 m2 : List ((Nat × Nat) × Value)), i ≤ k ∧ z = .int .i64 (i : Int) ∧ LsB wr w.heap.size v (twR [] (all.take i)) ∧ MapB noV noOk wr w.heap.size m1 ∧ MapB noV noOk wr (w.heap.size + 1) m2 ∧ FstM (all.take i) m1 ∧ MixM (all.take i) m2 ∧ Below w.heap.size w wr) (fun z _ _ => k - (intOf z).toNat)
  case atStart => exact ⟨0, [], [], Nat.zero_le _, rfl, World.ownsRow_nil _ _ _ _, MA.out, MB.out, fun x => rfl, fun x => rfl, B0.out⟩
  case round =>
    obtain ⟨i, m1, m2, hi, rfl, hv, hm1, hm2, hf, hx, hb⟩ := hrel
    have V0 := Lib.hid hv
    have M1 := Lib.hid hm1
    have M2 := Lib.hid hm2
    have HF := Lib.hid hf
    have HX := Lib.hid hx
    have HB := Lib.hid hb
    clear hv hm1 hm2 hf hx hb
    by_cases hlt : i < k
    · obtain ⟨s, hs⟩ : ∃ s, all[i]? = some s := ⟨_, List.getElem?_eq_getElem (by rw [← HN.out]; exact hlt)⟩
      obtain ⟨gb, cap, he, hgl, hcell⟩ := HC.out i s hs
      injection he with he1 _ he3
      subst he1 he3
      have hlti : (i : Int) < (k : Int) := by omega
      have HLT := Lib.hid hlt
      have HS := Lib.hid hs
      have SOK := Lib.hid (HOK.out s (List.mem_of_getElem? hs))
      have NOK : Hid (noOk (nonS s)) := Lib.hid SOK.out.no
      have kp : ∀ j u, (slc s)[j]? = some u → wr.cell? ⟨gb, i * 9 + j, none⟩ = some u := fun j u hu => (World.cell?_of_block (HB.out.block _ hgl)).trans (hcell j u hu)
      have x0 : wr.cell? ⟨gb, i * 9 + 0, none⟩ = some (.int .u32 (s.l.ten : Int)) := kp 0 _ rfl
      have x1 : wr.cell? ⟨gb, i * 9 + 1, none⟩ = some (.int .u8 (s.l.k : Int)) := kp 1 _ rfl
      have x2 : wr.cell? ⟨gb, i * 9 + 2, none⟩ = some (.int .u8 (s.l.lv : Int)) := kp 2 _ rfl
      have x3 : wr.cell? ⟨gb, i * 9 + 3, none⟩ = some (.int .u32 (s.l.pg : Int)) := kp 3 _ rfl
      have x4 : wr.cell? ⟨gb, i * 9 + 4, none⟩ = some (.int .u64 (s.l.cm : Int)) := kp 4 _ rfl
      have x5 : wr.cell? ⟨gb, i * 9 + 5, none⟩ = some (.int .u16 (s.l.gn : Int)) := kp 5 _ rfl
      have x6 : wr.cell? ⟨gb, i * 9 + 6, none⟩ = some (.string (strOf s.key)) := kp 6 _ rfl
      have x7 : wr.cell? ⟨gb, i * 9 + 7, none⟩ = some (.string (strOf s.pay)) := kp 7 _ rfl
      have x8 : wr.cell? ⟨gb, i * 9 + 8, none⟩ = some (.string (strOf s.blk)) := kp 8 _ rfl
      rw [Nat.add_zero] at x0
      have TK : Hid (all.take (i + 1) = all.take i ++ [s]) := Lib.hid (by rw [List.take_add_one, HS.out, Option.toList_some])
      have LN : Hid ((twR [] (all.take i)).length ≤ 1000) := Lib.hid (by
        have h1 := twR_len (all.take i) []
        have h2 := HL.out
        rw [List.length_take] at h1
        omega)
      have SZ : Hid (w.heap.size ≤ wr.heap.size) := Lib.hid HB.out.size
      have ML : Hid (w.heap.size + 1 < wr.heap.size) := Lib.hid M2.out.lt
      clear kp hcell hgl hlt hs hi
      have L2 : Hid (MapB noV noOk ((wr.alloc (.cells #[.int .u32 (s.l.ten : Int), .int .u8 (s.l.k : Int), .int .u8 (s.l.lv : Int), .int .u32 (s.l.pg : Int), .int .u64 (s.l.cm : Int), .int .u16 (s.l.gn : Int), .string (strOf s.key), .string (strOf s.pay), .string (strOf s.blk)] 130)).alloc (.cells #[.int .u32 (s.l.pg : Int), .int .u64 (s.l.cm : Int)] 139)) w.heap.size m1) := Lib.hid ((M1.out.alloc _).alloc _)
      cases hfs : firstS (all.take i) (nonS s) with
      | none =>
        have hlk : (Instr.lookup 136 (.map (some w.heap.size)) (.agg #[.int .u32 (s.l.pg : Int), .int .u64 (s.l.cm : Int)]) true).run Try.prog ((wr.alloc (.cells #[.int .u32 (s.l.ten : Int), .int .u8 (s.l.k : Int), .int .u8 (s.l.lv : Int), .int .u32 (s.l.pg : Int), .int .u64 (s.l.cm : Int), .int .u16 (s.l.gn : Int), .string (strOf s.key), .string (strOf s.pay), .string (strOf s.blk)] 130)).alloc (.cells #[.int .u32 (s.l.pg : Int), .int .u64 (s.l.cm : Int)] 139)) = .ok (.tuple #[.agg #[.int .u32 0, .int .u8 0, .int .u8 0, .int .u32 0, .int .u64 0, .int .u16 0, .string ByteArray.empty, .string ByteArray.empty, .string ByteArray.empty], .bool false]) ((wr.alloc (.cells #[.int .u32 (s.l.ten : Int), .int .u8 (s.l.k : Int), .int .u8 (s.l.lv : Int), .int .u32 (s.l.pg : Int), .int .u64 (s.l.cm : Int), .int .u16 (s.l.gn : Int), .string (strOf s.key), .string (strOf s.pay), .string (strOf s.blk)] 130)).alloc (.cells #[.int .u32 (s.l.pg : Int), .int .u64 (s.l.cm : Int)] 139)) := L2.out.look_none (x := nonS s) no_K Try.underlying136 NOK.out (by rw [HF.out, hfs]; rfl) (zero_sl _) true
        have HT : Hid (twR [] (all.take (i + 1)) = twR [] (all.take i)) := Lib.hid (by rw [TK.out, twR_snoc, List.nil_append, othr_none hfs]; simp)
        have HF2 : Hid (FstM (all.take (i + 1)) (putL (nonS s) (.agg (slc s)) m1)) := Lib.hid (by rw [TK.out]; exact HF.out.new hfs)
        have HX2 : Hid (MixM (all.take (i + 1)) m2) := Lib.hid (by rw [TK.out]; exact HX.out.new hfs)
        have D3 : Hid (Below wr.heap.size wr (((wr.alloc (.cells #[.int .u32 (s.l.ten : Int), .int .u8 (s.l.k : Int), .int .u8 (s.l.lv : Int), .int .u32 (s.l.pg : Int), .int .u64 (s.l.cm : Int), .int .u16 (s.l.gn : Int), .string (strOf s.key), .string (strOf s.pay), .string (strOf s.blk)] 130)).alloc (.cells #[.int .u32 (s.l.pg : Int), .int .u64 (s.l.cm : Int)] 139)).alloc (.cells #[.int .u32 0, .int .u8 0, .int .u8 0, .int .u32 0, .int .u64 0, .int .u16 0, .string ByteArray.empty, .string ByteArray.empty, .string ByteArray.empty] 130))) := Lib.hid ((((Below.refl _ _).alloc (Nat.le_refl _) _).alloc (by simp) _).alloc (by simp; omega) _)
        have V3 := Lib.hid (V0.out.ab D3.out)
        have A3 := Lib.hid (M1.out.ab D3.out)
        have E3 := Lib.hid (M2.out.ab D3.out)
        have B3 := Lib.hid (below_tr HB.out D3.out HB.out.size)
        clear hfs
        go_wp2_with (first
          | (refine wpList_mapPut rfl (.tmp 41) (.tmp 42) (.tmp 43) rfl no_K Try.underlying136 rfl A3.out (nonS s) NOK.out rfl (.agg (slc s)) rfl ?_
             intro w4 m4 g4 s4 b4
             have M4 := Lib.hid m4
             have G4 := Lib.hid g4
             have B4 := Lib.hid (b4 _ _ B3.out (Nat.le_refl _))
             clear m4 g4 s4 b4))
        go_roundw
        case rel => exact ⟨i + 1, _, m2, HLT.out, by go_num, by rw [HT.out]; exact V3.out.put A3.out G4.out, M4.out, E3.out.grown G4.out (by simp), HF2.out, HX2.out, B4.out⟩
        case measure => simp [intOf]; have := HLT.out; omega
      | some f =>
        have hfm : f ∈ all := List.mem_of_mem_take (List.mem_of_find?_eq_some hfs)
        have FOK := HOK.out f hfm
        have hlk : (Instr.lookup 136 (.map (some w.heap.size)) (.agg #[.int .u32 (s.l.pg : Int), .int .u64 (s.l.cm : Int)]) true).run Try.prog ((wr.alloc (.cells #[.int .u32 (s.l.ten : Int), .int .u8 (s.l.k : Int), .int .u8 (s.l.lv : Int), .int .u32 (s.l.pg : Int), .int .u64 (s.l.cm : Int), .int .u16 (s.l.gn : Int), .string (strOf s.key), .string (strOf s.pay), .string (strOf s.blk)] 130)).alloc (.cells #[.int .u32 (s.l.pg : Int), .int .u64 (s.l.cm : Int)] 139)) = .ok (.tuple #[.agg #[.int .u32 (f.l.ten : Int), .int .u8 (f.l.k : Int), .int .u8 (f.l.lv : Int), .int .u32 (f.l.pg : Int), .int .u64 (f.l.cm : Int), .int .u16 (f.l.gn : Int), .string (strOf f.key), .string (strOf f.pay), .string (strOf f.blk)], .bool true]) ((wr.alloc (.cells #[.int .u32 (s.l.ten : Int), .int .u8 (s.l.k : Int), .int .u8 (s.l.lv : Int), .int .u32 (s.l.pg : Int), .int .u64 (s.l.cm : Int), .int .u16 (s.l.gn : Int), .string (strOf s.key), .string (strOf s.pay), .string (strOf s.blk)] 130)).alloc (.cells #[.int .u32 (s.l.pg : Int), .int .u64 (s.l.cm : Int)] 139)) := L2.out.look_some (x := nonS s) no_K Try.underlying136 NOK.out (by rw [HF.out, hfs]; rfl) true
        have hos := othr_some hfs
        have hq := fun W => eq_lab f.l s.l W
        have hk1 := str_eq FOK.2.1 SOK.out.2.1
        have hp1 := str_eq FOK.2.2.1 SOK.out.2.2.1
        have hr : decide (resS f = resS s) = (decide (f.l = s.l) && (decide (f.key = s.key) && decide (f.pay = s.pay))) := by
          rw [← Bool.decide_and, ← Bool.decide_and, decide_eq_decide]
          simp [resS]
        rw [hr] at hos
        have HFO : Hid (FstM (all.take (i + 1)) m1) := Lib.hid (by rw [TK.out]; exact HF.out.old hfs)
        have HY : Hid (othr (all.take i) s = true → MixM (all.take (i + 1)) (putL (nonS s) (.bool true) m2) ∧ twR [] (all.take (i + 1)) = twR [] (all.take i) ++ [s.l]) := Lib.hid fun h => ⟨by rw [TK.out]; exact HX.out.yes hfs h, by rw [TK.out, twR_snoc, List.nil_append, h]; rfl⟩
        have HNN : Hid (othr (all.take i) s = false → MixM (all.take (i + 1)) m2 ∧ twR [] (all.take (i + 1)) = twR [] (all.take i)) := Lib.hid fun h => ⟨by rw [TK.out]; exact HX.out.no hfs h, by rw [TK.out, twR_snoc, List.nil_append, h]; simp⟩
        have D3 : Hid (Below wr.heap.size wr (((wr.alloc (.cells #[.int .u32 (s.l.ten : Int), .int .u8 (s.l.k : Int), .int .u8 (s.l.lv : Int), .int .u32 (s.l.pg : Int), .int .u64 (s.l.cm : Int), .int .u16 (s.l.gn : Int), .string (strOf s.key), .string (strOf s.pay), .string (strOf s.blk)] 130)).alloc (.cells #[.int .u32 (s.l.pg : Int), .int .u64 (s.l.cm : Int)] 139)).alloc (.cells #[.int .u32 (f.l.ten : Int), .int .u8 (f.l.k : Int), .int .u8 (f.l.lv : Int), .int .u32 (f.l.pg : Int), .int .u64 (f.l.cm : Int), .int .u16 (f.l.gn : Int), .string (strOf f.key), .string (strOf f.pay), .string (strOf f.blk)] 130))) := Lib.hid ((((Below.refl _ _).alloc (Nat.le_refl _) _).alloc (by simp) _).alloc (by simp; omega) _)
        have V3 := Lib.hid (V0.out.ab D3.out)
        have A3 := Lib.hid (M1.out.ab D3.out)
        have E3 := Lib.hid (M2.out.ab D3.out)
        have B3 := Lib.hid (below_tr HB.out D3.out HB.out.size)
        have hlk2 : (Instr.lookup 137 (.map (some (w.heap.size + 1))) (.agg #[.int .u32 (s.l.pg : Int), .int .u64 (s.l.cm : Int)]) false).run Try.prog (((wr.alloc (.cells #[.int .u32 (s.l.ten : Int), .int .u8 (s.l.k : Int), .int .u8 (s.l.lv : Int), .int .u32 (s.l.pg : Int), .int .u64 (s.l.cm : Int), .int .u16 (s.l.gn : Int), .string (strOf s.key), .string (strOf s.pay), .string (strOf s.blk)] 130)).alloc (.cells #[.int .u32 (s.l.pg : Int), .int .u64 (s.l.cm : Int)] 139)).alloc (.cells #[.int .u32 (f.l.ten : Int), .int .u8 (f.l.k : Int), .int .u8 (f.l.lv : Int), .int .u32 (f.l.pg : Int), .int .u64 (f.l.cm : Int), .int .u16 (f.l.gn : Int), .string (strOf f.key), .string (strOf f.pay), .string (strOf f.blk)] 130)) = .ok (.bool (mixdS (all.take i) (nonS s))) (((wr.alloc (.cells #[.int .u32 (s.l.ten : Int), .int .u8 (s.l.k : Int), .int .u8 (s.l.lv : Int), .int .u32 (s.l.pg : Int), .int .u64 (s.l.cm : Int), .int .u16 (s.l.gn : Int), .string (strOf s.key), .string (strOf s.pay), .string (strOf s.blk)] 130)).alloc (.cells #[.int .u32 (s.l.pg : Int), .int .u64 (s.l.cm : Int)] 139)).alloc (.cells #[.int .u32 (f.l.ten : Int), .int .u8 (f.l.k : Int), .int .u8 (f.l.lv : Int), .int .u32 (f.l.pg : Int), .int .u64 (f.l.cm : Int), .int .u16 (f.l.gn : Int), .string (strOf f.key), .string (strOf f.pay), .string (strOf f.blk)] 130)) := by
          cases hmd : mixdS (all.take i) (nonS s)
          · exact E3.out.look_none (x := nonS s) no_K Try.underlying137 NOK.out (by rw [HX.out, hmd]; rfl) (zero_bo _) false
          · exact E3.out.look_some (x := nonS s) no_K Try.underlying137 NOK.out (by rw [HX.out, hmd]; rfl) false
        clear hfs hr hfm FOK
        generalize mixdS (all.take i) (nonS s) = bm at *
        generalize decide (f.l = s.l) = bl at *
        generalize decide (f.key = s.key) = bk at *
        generalize decide (f.pay = s.pay) = bp at *
        cases bm
        · cases bl
          · have HYO := Lib.hid (HY.out hos)
            clear hos HY HNN
            go_wp2_with (first
              | (refine wpList_mapPut rfl (.tmp 68) (.tmp 69) (.const (.bool true)) rfl no_K Try.underlying137 rfl E3.out (nonS s) NOK.out rfl (.bool true) rfl ?_
                 intro w4 m4 g4 s4 b4
                 have E4 := Lib.hid m4
                 have A4 := Lib.hid (A3.out.grown g4 (by simp))
                 have V4 := Lib.hid (V3.out.put E3.out g4)
                 have B4 := Lib.hid (b4 _ _ B3.out (by omega))
                 have S4 : Hid (w.heap.size ≤ w4.heap.size) := Lib.hid B4.out.size
                 have k4 : ∀ (j : Nat) (u : Value), (slc s)[j]? = some u → w4.cell? ⟨wr.heap.size, j, none⟩ = some u := fun j u hu => by
                   have h1 : CbB (wr.alloc (.cells #[.int .u32 (s.l.ten : Int), .int .u8 (s.l.k : Int), .int .u8 (s.l.lv : Int), .int .u32 (s.l.pg : Int), .int .u64 (s.l.cm : Int), .int .u16 (s.l.gn : Int), .string (strOf s.key), .string (strOf s.pay), .string (strOf s.blk)] 130)) wr.heap.size 130 (slc s) := CbB.new _ _ _
                   have h2 := ((h1.ab ((Below.refl _ _).alloc (Nat.le_refl _) (.cells #[.int .u32 (s.l.pg : Int), .int .u64 (s.l.cm : Int)] 139))).ab ((Below.refl _ _).alloc (Nat.le_refl _) (.cells #[.int .u32 (f.l.ten : Int), .int .u8 (f.l.k : Int), .int .u8 (f.l.lv : Int), .int .u32 (f.l.pg : Int), .int .u64 (f.l.cm : Int), .int .u16 (f.l.gn : Int), .string (strOf f.key), .string (strOf f.pay), .string (strOf f.blk)] 130))).grown g4 (by have := ML.out; omega)
                   exact h2.cell hu
                 have y0 : w4.cell? ⟨wr.heap.size, 0, none⟩ = some (.int .u32 (s.l.ten : Int)) := k4 0 _ rfl
                 have y1 : w4.cell? ⟨wr.heap.size, 1, none⟩ = some (.int .u8 (s.l.k : Int)) := k4 1 _ rfl
                 have y2 : w4.cell? ⟨wr.heap.size, 2, none⟩ = some (.int .u8 (s.l.lv : Int)) := k4 2 _ rfl
                 have y3 : w4.cell? ⟨wr.heap.size, 3, none⟩ = some (.int .u32 (s.l.pg : Int)) := k4 3 _ rfl
                 have y4 : w4.cell? ⟨wr.heap.size, 4, none⟩ = some (.int .u64 (s.l.cm : Int)) := k4 4 _ rfl
                 have y5 : w4.cell? ⟨wr.heap.size, 5, none⟩ = some (.int .u16 (s.l.gn : Int)) := k4 5 _ rfl
                 clear m4 g4 s4 b4 k4)
              | (refine wpList_appL rfl (.tmp 70) (.tmp 73) rfl (V4.out.ab ((Below.refl _ _).alloc (Nat.le_refl _) _)) rfl s.l rfl (CbB.new _ _ _) LN.out (Nat.le_trans S4.out (by simp)) ?_
                 intro v6 w6 hv6 hg6
                 have h5 : Below w4.heap.size w4 (w4.alloc (.cells #[.int .u32 (s.l.ten : Int), .int .u8 (s.l.k : Int), .int .u8 (s.l.lv : Int), .int .u32 (s.l.pg : Int), .int .u64 (s.l.cm : Int), .int .u16 (s.l.gn : Int)] 35)) := (Below.refl _ _).alloc (Nat.le_refl _) _
                 have V6 := Lib.hid hv6
                 have A6 := Lib.hid ((A4.out.ab h5).grown hg6 (row_notMap (V4.out.ab h5) (A4.out.ab h5)))
                 have E6 := Lib.hid ((E4.out.ab h5).grown hg6 (row_notMap (V4.out.ab h5) (E4.out.ab h5)))
                 have B6 := Lib.hid (below_grownO (below_tr B4.out h5 S4.out) hg6 (own_ge9 V4.out) (Nat.le_trans S4.out h5.size))
                 clear hv6 hg6 h5))
            go_roundw
            case rel => exact ⟨i + 1, m1, _, HLT.out, by go_num, by rw [HYO.out.2]; exact V6.out, A6.out, E6.out, HFO.out, HYO.out.1, B6.out⟩
            case measure => simp [intOf]; have := HLT.out; omega
          · cases bk
            · have HYO := Lib.hid (HY.out hos)
              clear hos HY HNN
              go_wp2_with (first
                | (refine wpList_mapPut rfl (.tmp 68) (.tmp 69) (.const (.bool true)) rfl no_K Try.underlying137 rfl E3.out (nonS s) NOK.out rfl (.bool true) rfl ?_
                   intro w4 m4 g4 s4 b4
                   have E4 := Lib.hid m4
                   have A4 := Lib.hid (A3.out.grown g4 (by simp))
                   have V4 := Lib.hid (V3.out.put E3.out g4)
                   have B4 := Lib.hid (b4 _ _ B3.out (by omega))
                   have S4 : Hid (w.heap.size ≤ w4.heap.size) := Lib.hid B4.out.size
                   have k4 : ∀ (j : Nat) (u : Value), (slc s)[j]? = some u → w4.cell? ⟨wr.heap.size, j, none⟩ = some u := fun j u hu => by
                     have h1 : CbB (wr.alloc (.cells #[.int .u32 (s.l.ten : Int), .int .u8 (s.l.k : Int), .int .u8 (s.l.lv : Int), .int .u32 (s.l.pg : Int), .int .u64 (s.l.cm : Int), .int .u16 (s.l.gn : Int), .string (strOf s.key), .string (strOf s.pay), .string (strOf s.blk)] 130)) wr.heap.size 130 (slc s) := CbB.new _ _ _
                     have h2 := ((h1.ab ((Below.refl _ _).alloc (Nat.le_refl _) (.cells #[.int .u32 (s.l.pg : Int), .int .u64 (s.l.cm : Int)] 139))).ab ((Below.refl _ _).alloc (Nat.le_refl _) (.cells #[.int .u32 (f.l.ten : Int), .int .u8 (f.l.k : Int), .int .u8 (f.l.lv : Int), .int .u32 (f.l.pg : Int), .int .u64 (f.l.cm : Int), .int .u16 (f.l.gn : Int), .string (strOf f.key), .string (strOf f.pay), .string (strOf f.blk)] 130))).grown g4 (by have := ML.out; omega)
                     exact h2.cell hu
                   have y0 : w4.cell? ⟨wr.heap.size, 0, none⟩ = some (.int .u32 (s.l.ten : Int)) := k4 0 _ rfl
                   have y1 : w4.cell? ⟨wr.heap.size, 1, none⟩ = some (.int .u8 (s.l.k : Int)) := k4 1 _ rfl
                   have y2 : w4.cell? ⟨wr.heap.size, 2, none⟩ = some (.int .u8 (s.l.lv : Int)) := k4 2 _ rfl
                   have y3 : w4.cell? ⟨wr.heap.size, 3, none⟩ = some (.int .u32 (s.l.pg : Int)) := k4 3 _ rfl
                   have y4 : w4.cell? ⟨wr.heap.size, 4, none⟩ = some (.int .u64 (s.l.cm : Int)) := k4 4 _ rfl
                   have y5 : w4.cell? ⟨wr.heap.size, 5, none⟩ = some (.int .u16 (s.l.gn : Int)) := k4 5 _ rfl
                   clear m4 g4 s4 b4 k4)
                | (refine wpList_appL rfl (.tmp 70) (.tmp 73) rfl (V4.out.ab ((Below.refl _ _).alloc (Nat.le_refl _) _)) rfl s.l rfl (CbB.new _ _ _) LN.out (Nat.le_trans S4.out (by simp)) ?_
                   intro v6 w6 hv6 hg6
                   have h5 : Below w4.heap.size w4 (w4.alloc (.cells #[.int .u32 (s.l.ten : Int), .int .u8 (s.l.k : Int), .int .u8 (s.l.lv : Int), .int .u32 (s.l.pg : Int), .int .u64 (s.l.cm : Int), .int .u16 (s.l.gn : Int)] 35)) := (Below.refl _ _).alloc (Nat.le_refl _) _
                   have V6 := Lib.hid hv6
                   have A6 := Lib.hid ((A4.out.ab h5).grown hg6 (row_notMap (V4.out.ab h5) (A4.out.ab h5)))
                   have E6 := Lib.hid ((E4.out.ab h5).grown hg6 (row_notMap (V4.out.ab h5) (E4.out.ab h5)))
                   have B6 := Lib.hid (below_grownO (below_tr B4.out h5 S4.out) hg6 (own_ge9 V4.out) (Nat.le_trans S4.out h5.size))
                   clear hv6 hg6 h5))
              go_roundw
              case rel => exact ⟨i + 1, m1, _, HLT.out, by go_num, by rw [HYO.out.2]; exact V6.out, A6.out, E6.out, HFO.out, HYO.out.1, B6.out⟩
              case measure => simp [intOf]; have := HLT.out; omega
            · cases bp
              · have HYO := Lib.hid (HY.out hos)
                clear hos HY HNN
                go_wp2_with (first
                  | (refine wpList_mapPut rfl (.tmp 68) (.tmp 69) (.const (.bool true)) rfl no_K Try.underlying137 rfl E3.out (nonS s) NOK.out rfl (.bool true) rfl ?_
                     intro w4 m4 g4 s4 b4
                     have E4 := Lib.hid m4
                     have A4 := Lib.hid (A3.out.grown g4 (by simp))
                     have V4 := Lib.hid (V3.out.put E3.out g4)
                     have B4 := Lib.hid (b4 _ _ B3.out (by omega))
                     have S4 : Hid (w.heap.size ≤ w4.heap.size) := Lib.hid B4.out.size
                     have k4 : ∀ (j : Nat) (u : Value), (slc s)[j]? = some u → w4.cell? ⟨wr.heap.size, j, none⟩ = some u := fun j u hu => by
                       have h1 : CbB (wr.alloc (.cells #[.int .u32 (s.l.ten : Int), .int .u8 (s.l.k : Int), .int .u8 (s.l.lv : Int), .int .u32 (s.l.pg : Int), .int .u64 (s.l.cm : Int), .int .u16 (s.l.gn : Int), .string (strOf s.key), .string (strOf s.pay), .string (strOf s.blk)] 130)) wr.heap.size 130 (slc s) := CbB.new _ _ _
                       have h2 := ((h1.ab ((Below.refl _ _).alloc (Nat.le_refl _) (.cells #[.int .u32 (s.l.pg : Int), .int .u64 (s.l.cm : Int)] 139))).ab ((Below.refl _ _).alloc (Nat.le_refl _) (.cells #[.int .u32 (f.l.ten : Int), .int .u8 (f.l.k : Int), .int .u8 (f.l.lv : Int), .int .u32 (f.l.pg : Int), .int .u64 (f.l.cm : Int), .int .u16 (f.l.gn : Int), .string (strOf f.key), .string (strOf f.pay), .string (strOf f.blk)] 130))).grown g4 (by have := ML.out; omega)
                       exact h2.cell hu
                     have y0 : w4.cell? ⟨wr.heap.size, 0, none⟩ = some (.int .u32 (s.l.ten : Int)) := k4 0 _ rfl
                     have y1 : w4.cell? ⟨wr.heap.size, 1, none⟩ = some (.int .u8 (s.l.k : Int)) := k4 1 _ rfl
                     have y2 : w4.cell? ⟨wr.heap.size, 2, none⟩ = some (.int .u8 (s.l.lv : Int)) := k4 2 _ rfl
                     have y3 : w4.cell? ⟨wr.heap.size, 3, none⟩ = some (.int .u32 (s.l.pg : Int)) := k4 3 _ rfl
                     have y4 : w4.cell? ⟨wr.heap.size, 4, none⟩ = some (.int .u64 (s.l.cm : Int)) := k4 4 _ rfl
                     have y5 : w4.cell? ⟨wr.heap.size, 5, none⟩ = some (.int .u16 (s.l.gn : Int)) := k4 5 _ rfl
                     clear m4 g4 s4 b4 k4)
                  | (refine wpList_appL rfl (.tmp 70) (.tmp 73) rfl (V4.out.ab ((Below.refl _ _).alloc (Nat.le_refl _) _)) rfl s.l rfl (CbB.new _ _ _) LN.out (Nat.le_trans S4.out (by simp)) ?_
                     intro v6 w6 hv6 hg6
                     have h5 : Below w4.heap.size w4 (w4.alloc (.cells #[.int .u32 (s.l.ten : Int), .int .u8 (s.l.k : Int), .int .u8 (s.l.lv : Int), .int .u32 (s.l.pg : Int), .int .u64 (s.l.cm : Int), .int .u16 (s.l.gn : Int)] 35)) := (Below.refl _ _).alloc (Nat.le_refl _) _
                     have V6 := Lib.hid hv6
                     have A6 := Lib.hid ((A4.out.ab h5).grown hg6 (row_notMap (V4.out.ab h5) (A4.out.ab h5)))
                     have E6 := Lib.hid ((E4.out.ab h5).grown hg6 (row_notMap (V4.out.ab h5) (E4.out.ab h5)))
                     have B6 := Lib.hid (below_grownO (below_tr B4.out h5 S4.out) hg6 (own_ge9 V4.out) (Nat.le_trans S4.out h5.size))
                     clear hv6 hg6 h5))
                go_roundw
                case rel => exact ⟨i + 1, m1, _, HLT.out, by go_num, by rw [HYO.out.2]; exact V6.out, A6.out, E6.out, HFO.out, HYO.out.1, B6.out⟩
                case measure => simp [intOf]; have := HLT.out; omega
              · have HNO := Lib.hid (HNN.out hos)
                clear hos HY HNN
                go_wp2_with fail
                go_roundw
                case rel => exact ⟨i + 1, m1, m2, HLT.out, by go_num, by rw [HNO.out.2]; exact V3.out, A3.out, E3.out, HFO.out, HNO.out.1, B3.out⟩
                case measure => simp [intOf]; have := HLT.out; omega
        · have HYO := Lib.hid (HY.out hos)
          clear hos HY HNN
          go_wp2_with (first
            | (refine wpList_mapPut rfl (.tmp 68) (.tmp 69) (.const (.bool true)) rfl no_K Try.underlying137 rfl E3.out (nonS s) NOK.out rfl (.bool true) rfl ?_
               intro w4 m4 g4 s4 b4
               have E4 := Lib.hid m4
               have A4 := Lib.hid (A3.out.grown g4 (by simp))
               have V4 := Lib.hid (V3.out.put E3.out g4)
               have B4 := Lib.hid (b4 _ _ B3.out (by omega))
               have S4 : Hid (w.heap.size ≤ w4.heap.size) := Lib.hid B4.out.size
               have k4 : ∀ (j : Nat) (u : Value), (slc s)[j]? = some u → w4.cell? ⟨wr.heap.size, j, none⟩ = some u := fun j u hu => by
                 have h1 : CbB (wr.alloc (.cells #[.int .u32 (s.l.ten : Int), .int .u8 (s.l.k : Int), .int .u8 (s.l.lv : Int), .int .u32 (s.l.pg : Int), .int .u64 (s.l.cm : Int), .int .u16 (s.l.gn : Int), .string (strOf s.key), .string (strOf s.pay), .string (strOf s.blk)] 130)) wr.heap.size 130 (slc s) := CbB.new _ _ _
                 have h2 := ((h1.ab ((Below.refl _ _).alloc (Nat.le_refl _) (.cells #[.int .u32 (s.l.pg : Int), .int .u64 (s.l.cm : Int)] 139))).ab ((Below.refl _ _).alloc (Nat.le_refl _) (.cells #[.int .u32 (f.l.ten : Int), .int .u8 (f.l.k : Int), .int .u8 (f.l.lv : Int), .int .u32 (f.l.pg : Int), .int .u64 (f.l.cm : Int), .int .u16 (f.l.gn : Int), .string (strOf f.key), .string (strOf f.pay), .string (strOf f.blk)] 130))).grown g4 (by have := ML.out; omega)
                 exact h2.cell hu
               have y0 : w4.cell? ⟨wr.heap.size, 0, none⟩ = some (.int .u32 (s.l.ten : Int)) := k4 0 _ rfl
               have y1 : w4.cell? ⟨wr.heap.size, 1, none⟩ = some (.int .u8 (s.l.k : Int)) := k4 1 _ rfl
               have y2 : w4.cell? ⟨wr.heap.size, 2, none⟩ = some (.int .u8 (s.l.lv : Int)) := k4 2 _ rfl
               have y3 : w4.cell? ⟨wr.heap.size, 3, none⟩ = some (.int .u32 (s.l.pg : Int)) := k4 3 _ rfl
               have y4 : w4.cell? ⟨wr.heap.size, 4, none⟩ = some (.int .u64 (s.l.cm : Int)) := k4 4 _ rfl
               have y5 : w4.cell? ⟨wr.heap.size, 5, none⟩ = some (.int .u16 (s.l.gn : Int)) := k4 5 _ rfl
               clear m4 g4 s4 b4 k4)
            | (refine wpList_appL rfl (.tmp 70) (.tmp 73) rfl (V4.out.ab ((Below.refl _ _).alloc (Nat.le_refl _) _)) rfl s.l rfl (CbB.new _ _ _) LN.out (Nat.le_trans S4.out (by simp)) ?_
               intro v6 w6 hv6 hg6
               have h5 : Below w4.heap.size w4 (w4.alloc (.cells #[.int .u32 (s.l.ten : Int), .int .u8 (s.l.k : Int), .int .u8 (s.l.lv : Int), .int .u32 (s.l.pg : Int), .int .u64 (s.l.cm : Int), .int .u16 (s.l.gn : Int)] 35)) := (Below.refl _ _).alloc (Nat.le_refl _) _
               have V6 := Lib.hid hv6
               have A6 := Lib.hid ((A4.out.ab h5).grown hg6 (row_notMap (V4.out.ab h5) (A4.out.ab h5)))
               have E6 := Lib.hid ((E4.out.ab h5).grown hg6 (row_notMap (V4.out.ab h5) (E4.out.ab h5)))
               have B6 := Lib.hid (below_grownO (below_tr B4.out h5 S4.out) hg6 (own_ge9 V4.out) (Nat.le_trans S4.out h5.size))
               clear hv6 hg6 h5))
          go_roundw
          case rel => exact ⟨i + 1, m1, _, HLT.out, by go_num, by rw [HYO.out.2]; exact V6.out, A6.out, E6.out, HFO.out, HYO.out.1, B6.out⟩
          case measure => simp [intOf]; have := HLT.out; omega
    · obtain rfl : i = k := by omega
      have HT : Hid (all.take i = all) := Lib.hid (by rw [HN.out, List.take_length])
      have V9 := V0.out
      rw [HT.out] at V9
      have V9 := Lib.hid V9
      clear hlt hi
      go_wp2_with fail
      go_ret
      exact ⟨_, rfl, V9.out, HB.out⟩
end Go.Proofs.Ytmeakfocppooiaa
