/-
  THE REFERENCE's CAPS: all handles that ever were, in memory; At, Alive: walks.
  THE REFERENCE's CAPS: make1, Attach, Give, Check, Clear: walks.
  THE REFERENCE's CAPS: Clear, Below: walks.
  THE REFERENCE's CAPS: Revoke: walk.
-/
import Derived.Test.YtdkdkjglbnlmcaaCaF
namespace Go.Proofs.Ytdkdkjglbnlmcaa
open Go.RowKit
set_option linter.unusedVariables false

def hc1 (x : Hdl) : List Value := [.int .u8 (x.r : Int), .int .u64 (x.up : Int), .bool x.on]
def hcs : HL → List Value
  | [] => []
  | x :: r => hc1 x ++ hcs r
theorem hcs_len : ∀ A : HL, (hcs A).length = A.length * 3
  | [] => rfl
  | x :: r => by
    simp only [hcs, hc1, List.length_append, List.length_cons, List.length_nil, hcs_len r]
    omega
theorem hcs_app : ∀ (A C : HL), hcs (A ++ C) = hcs A ++ hcs C
  | [], C => rfl
  | x :: r, C => by simp only [List.cons_append, hcs, hcs_app r C, List.append_assoc]
theorem hcs_at : ∀ (A : HL) (i : Nat) (x : Hdl), A[i]? = some x → ∀ j u, (hc1 x)[j]? = some u → (hcs A)[i * 3 + j]? = some u
  | [], i, x, h, _, _, _ => by simp at h
  | y :: r, 0, x, h, j, u, hj => by
    simp only [List.getElem?_cons_zero, Option.some.injEq] at h
    subst h
    have hl : j < (hc1 y).length := (List.getElem?_eq_some_iff.1 hj).1
    simp only [hcs, Nat.zero_mul, Nat.zero_add]
    rw [List.getElem?_append_left hl]
    exact hj
  | y :: r, i + 1, x, h, j, u, hj => by
    have e : (i + 1) * 3 + j = (hc1 y).length + (i * 3 + j) := by simp only [hc1, List.length_cons, List.length_nil]; omega
    simp only [hcs]
    rw [e, List.getElem?_append_right (by omega), Nat.add_sub_cancel_left]
    exact hcs_at r i x (by simpa using h) j u hj
/-- the reference's caps: their struct's block, their list -/
structure RcB (w : World) (B g : Nat) (v : Value) (A : HL) : Prop where
  box : CbB w g 47 #[v]
  own : w.ownsRow B 66 3 v A.length (hcs A)
  low : B ≤ w.heap.size
section
variable {w w' : World} {B g : Nat} {v : Value} {A : HL}
theorem RcB.ab (h : RcB w B g v A) (hb : Below w.heap.size w w') : RcB w' B g v A :=
  ⟨h.box.ab hb, h.own.kept (row := none) (grown_of hb none) (by cases hv : v.ownBlock <;> simp), Nat.le_trans h.low hb.size⟩
theorem RcB.fr {F : Nat → Prop} (h : RcB w B g v A) (hf : Fr w w' F) (hg : ¬ F g) (hv : ∀ k, v.ownBlock = some k → ¬ F k) : RcB w' B g v A :=
  ⟨h.box.fr hf hg, row_fr h.own hf hv, Nat.le_trans h.low hf.size⟩
theorem RcB.shape (h : RcB w B g v A) : ∃ C cap, v = .slice C A.length cap := row_shape h.own
theorem RcB.form (h : RcB w B g v A) {i : Nat} {x : Hdl} (hx : A[i]? = some x) : ∃ gb cap, v = .slice (some ⟨gb, 0, none⟩) A.length cap ∧ w.cell? ⟨gb, i * 3, none⟩ = some (.int .u8 (x.r : Int)) ∧ w.cell? ⟨gb, i * 3 + 1, none⟩ = some (.int .u64 (x.up : Int)) ∧ w.cell? ⟨gb, i * 3 + 2, none⟩ = some (.bool x.on) ∧ (∀ k, w.frozen? ⟨gb, k, none⟩ = false) := by
  have hi : i < A.length := (List.getElem?_eq_some_iff.1 hx).1
  rcases h.own.2 with ⟨_, h0⟩ | ⟨gb, cap, cur, rfl, _, hh, _⟩
  · omega
  · have hc : ∀ j u, (hc1 x)[j]? = some u → w.cell? ⟨gb, i * 3 + j, none⟩ = some u := fun j u hj => by
      have := h.own.cells (g := gb) rfl (i * 3 + j) u (hcs_at A i x hx j u hj)
      rwa [Addr.add_mid, Nat.zero_add] at this
    exact ⟨gb, cap, rfl, hc 0 _ rfl, hc 1 _ rfl, hc 2 _ rfl, fun k => by simp [World.frozen?, hh]⟩
theorem RcB.new (w : World) (B : Nat) (hB : B ≤ w.heap.size) : RcB (w.alloc (.cells #[.slice none 0 0] 47)) B w.heap.size (.slice none 0 0) [] :=
  ⟨CbB.new _ _ _, World.ownsRow_nil _ _ _ _, Nat.le_trans hB (by simp)⟩
end
def hagg (x : Hdl) : Value := .agg #[.int .u8 (x.r : Int), .int .u64 (x.up : Int), .bool x.on]
def atP (A : HL) (h : Nat) : Hdl × Bool := match atH A h with | some x => (x, true) | none => (⟨0, 0, false⟩, false)
def AtR (w : World) (x : Hdl × Bool) (e : Ending) (w' : World) : Prop := e = .returned (.tuple #[hagg x.1, .bool x.2]) ∧ Below w.heap.size w w'
set_option maxRecDepth 100000 in
theorem at_zero {B g : Nat} {v : Value} {A : HL} {w : World} (h : RcB w B g v A) : Calls Try.prog 31 #[.pointer (some ⟨g, 0, none⟩), .int .u64 0] w (AtR w (⟨0, 0, false⟩, false)) := by
  clear h
  go_enter Try.func31, Try.ntmps31
  go_wp2_with fail
  (try simp only [Exit.inBlock, Exit.then])
  refine bodyPost_ret (v := .tuple #[.agg #[.int .u8 0, .int .u64 0, .bool false], .bool false]) ?_ rfl ?_
  · rw [results_cell_tmp rfl]
    go_simp
  exact ⟨rfl, (Below.refl _ _).alloc (Nat.le_refl _) _⟩
set_option maxRecDepth 100000 in
theorem at_over {B g h : Nat} {v : Value} {A : HL} {w : World} (hc : RcB w B g v A) (h1 : A.length < h) (hm : A.length < 1000000) : Calls Try.prog 31 #[.pointer (some ⟨g, 0, none⟩), .int .u64 (h : Int)] w (AtR w (⟨0, 0, false⟩, false)) := by
  obtain ⟨C, cap, rfl⟩ := hc.shape
  have ha : Below w.heap.size w (w.alloc (.cells #[.int .u8 0, .int .u64 0, .bool false] 66)) := (Below.refl _ _).alloc (Nat.le_refl _) _
  have hx : (w.alloc (.cells #[.int .u8 0, .int .u64 0, .bool false] 66)).cell? ⟨g, 0, none⟩ = some (.slice C A.length cap) := (hc.ab ha).box.cell (k := 0) rfl
  have d1 : ¬ ((h : Int) < 1) := by omega
  have d2 : (A.length : Int) < (h : Int) := by omega
  have d3 : IntKind.u64.wrap (A.length : Int) = (A.length : Int) := wide_u64 A.length (by omega)
  have HA := Lib.hid ha
  generalize A.length = n at *
  clear hc h1 hm ha
  go_enter Try.func31, Try.ntmps31
  go_wp2_with fail
  (try simp only [Exit.inBlock, Exit.then])
  refine bodyPost_ret (v := .tuple #[.agg #[.int .u8 0, .int .u64 0, .bool false], .bool false]) ?_ rfl ?_
  · rw [results_cell_tmp rfl]
    go_simp
  exact ⟨rfl, HA.out⟩
set_option maxRecDepth 100000 in
theorem at_in {B g i : Nat} {v : Value} {A : HL} {w : World} {x : Hdl} (hc : RcB w B g v A) (hx : A[i]? = some x) (hm : A.length < 1000000) : Calls Try.prog 31 #[.pointer (some ⟨g, 0, none⟩), .int .u64 ((i : Int) + 1)] w (AtR w (bif x.on then (x, true) else (⟨0, 0, false⟩, false))) := by
  have ha : Below w.heap.size w (w.alloc (.cells #[.int .u8 0, .int .u64 0, .bool false] 66)) := (Below.refl _ _).alloc (Nat.le_refl _) _
  have hg := (hc.ab ha).box.cell (k := 0) rfl
  obtain ⟨gb, cap, rfl, x0, x1, x2, _⟩ := (hc.ab ha).form hx
  have hi : i < A.length := (List.getElem?_eq_some_iff.1 hx).1
  have d1 : ¬ ((i : Int) + 1 < 1) := by omega
  have d2 : ¬ (A.length : Int) < (i : Int) + 1 := by omega
  have d3 : IntKind.u64.wrap (A.length : Int) = (A.length : Int) := wide_u64 A.length (by omega)
  have d4 : IntKind.u64.wrap ((i : Int) + 1 - 1) = (i : Int) := by rw [show (i : Int) + 1 - 1 = (i : Int) by omega]; exact wide_u64 i (by omega)
  have d5 : IntKind.u64.wrap (i : Int) = (i : Int) := wide_u64 i (by omega)
  have d6 : (i : Int) < (A.length : Int) := by omega
  have HA := Lib.hid ha
  obtain ⟨r, u, on⟩ := x
  try simp only at x0 x1 x2 ⊢
  generalize A.length = n at *
  clear hc hx hm ha hi
  cases on
  all_goals
    go_enter Try.func31, Try.ntmps31
    go_wp2_with fail
    (try simp only [Exit.inBlock, Exit.then])
  · refine bodyPost_ret (v := .tuple #[.agg #[.int .u8 0, .int .u64 0, .bool false], .bool false]) ?_ rfl ?_
    · rw [results_cell_tmp rfl]
      go_simp
    exact ⟨rfl, HA.out⟩
  · refine bodyPost_ret (v := .tuple #[.agg #[.int .u8 (r : Int), .int .u64 (u : Int), .bool true], .bool true]) ?_ rfl ?_
    · rw [results_cell_tmp rfl]
      go_simp
    exact ⟨rfl, (Below.refl _ _).alloc (Nat.le_refl _) _⟩
theorem rat25_any {B g h : Nat} {v : Value} {A : HL} {w : World} (hc : RcB w B g v A) (hm : A.length < 1000000) : Calls Try.prog 31 #[.pointer (some ⟨g, 0, none⟩), .int .u64 (h : Int)] w (AtR w (atP A h)) := by
  unfold atP atH nthH
  cases h with
  | zero => exact at_zero hc
  | succ i =>
    rw [if_neg (by omega), Nat.add_sub_cancel]
    have e : ((i + 1 : Nat) : Int) = (i : Int) + 1 := by omega
    rw [e]
    rcases Nat.lt_or_ge i A.length with hi | hi
    · rw [List.getElem?_eq_getElem hi]
      have h1 := at_in hc (List.getElem?_eq_getElem hi) hm
      cases hon : (A[i]).on
      · rw [hon] at h1
        simp only [Option.filter, hon]
        exact h1
      · rw [hon] at h1
        simp only [Option.filter, hon]
        exact h1
    · rw [List.getElem?_eq_none hi]
      have h1 := at_over (h := i + 1) hc (by omega) hm
      rw [e] at h1
      exact h1
theorem ns_row_ne {w : World} {B B' g : Nat} {v lv : Value} {A : HL} {l : List Nat} (h : RcB w B g v A) (hn : U64.NsB w B' lv l) : (∀ k, lv.ownBlock = some k → v.ownBlock ≠ some k) ∧ lv.ownBlock ≠ some g := by
  refine ⟨fun k hk hv => ?_, row_ne hn h.box (by decide)⟩
  rcases hn.2 with ⟨rfl, _⟩ | ⟨g1, cap, cur, rfl, _, hb, _⟩
  · cases hk
  · rcases h.own.2 with ⟨rfl, _⟩ | ⟨g2, cap2, cur2, rfl, _, hb2, _⟩
    · cases hv
    · simp only [Value.ownBlock, Option.some.injEq] at hk hv
      subst hk
      subst hv
      rw [hb] at hb2
      injection hb2 with hb2
      injection hb2 with _ hb2
      exact absurd hb2 (by decide)
theorem RcB.grownN {w w' : World} {B B' g : Nat} {v lv : Value} {A : HL} {l : List Nat} (h : RcB w B g v A) (hn : U64.NsB w B' lv l) (hg : w.grownBy w' lv.ownBlock) : RcB w' B g v A :=
  h.fr (Fr.grown hg) (fun e => (ns_row_ne h hn).2 e) (fun k hk e => (ns_row_ne h hn).1 k e hk)
set_option maxRecDepth 100000 in
set_option maxHeartbeats 1000000 in
theorem ralive_any {B g : Nat} {v : Value} {A : HL} {w : World} (hc : RcB w B g v A) (hm : A.length < 1000) : Calls Try.prog 19 #[.pointer (some ⟨g, 0, none⟩)] w fun e w' => ∃ lv, e = .returned lv ∧ U64.NsB w' w.heap.size lv (aliveH A) ∧ Below w.heap.size w w' := by
  obtain ⟨C, cap, hv⟩ := hc.shape
  have HC := Lib.hid hc
  have HV := Lib.hid hv
  obtain ⟨n, hn⟩ : ∃ n, A.length = n := ⟨_, rfl⟩
  have HN := Lib.hid hn
  rw [hn] at hv hm
  have hmb : (n : Int) < 1000 := by omega
  clear hc hn hm
  go_enter Try.func19, Try.ntmps19
  go_wp2_with fail
  go_loopw [3, 4] (fun lv z wr => ∃ i : Nat, i ≤ n ∧ z = .int .i64 (i : Int) ∧ U64.NsB wr w.heap.size lv (aliveF 0 (A.take i)) ∧ Below w.heap.size w wr) (fun _ z _ => n - (intOf z).toNat)
  case atStart => exact ⟨0, Nat.zero_le _, rfl, U64.NsB.nil _ _, Below.refl _ _⟩
  case round =>
    obtain ⟨i, hi, rfl, hns, hb⟩ := hrel
    have C1 := Lib.hid (HC.out.ab hb)
    have N1 := Lib.hid hns
    have B1 := Lib.hid hb
    have hg : wr.cell? ⟨g, 0, none⟩ = some (.slice C n cap) := by
      have := C1.out.box.cell (k := 0) rfl
      rw [hv] at this
      exact this
    clear hns hb
    by_cases hlt : i < n
    · obtain ⟨x, hx⟩ : ∃ x, A[i]? = some x := ⟨_, List.getElem?_eq_getElem (by rw [HN.out]; exact hlt)⟩
      obtain ⟨gb, cap', hv', x0, x1, x2, _⟩ := C1.out.form hx
      rw [hv, HN.out] at hv'
      injection hv' with hv1 _ hv2
      subst hv1 hv2
      have HX := Lib.hid hx
      have HLT := Lib.hid hlt
      have hlti : (i : Int) < (n : Int) := by omega
      have hw : IntKind.u64.wrap ((i : Int) + 1) = ((i + 1 : Nat) : Int) := wide_u64 (i + 1) (by omega)
      have LN : Hid ((aliveF 0 (A.take i)).length ≤ 100000) := Lib.hid (by have := aliveF_len (A.take i) 0; have := List.length_take_le i A; omega)
      have TK : Hid (A.take (i + 1) = A.take i ++ [x]) := Lib.hid (by rw [List.take_add_one, hx]; rfl)
      have TL : Hid ((A.take i).length = i) := Lib.hid (by rw [List.length_take, HN.out]; omega)
      obtain ⟨r, u, on⟩ := x
      try simp only at x0 x1 x2
      clear hx hlt hi x0 x1
      cases on
      · have AL : Hid (aliveF 0 (A.take (i + 1)) = aliveF 0 (A.take i)) := Lib.hid (by rw [TK.out, aliveF_snoc]; simp)
        clear TK TL
        go_wp2_with fail
        go_roundw
        case rel => exact ⟨i + 1, HLT.out, by go_num, by rw [AL.out]; exact N1.out, B1.out⟩
        case measure => simp [intOf]; have := HLT.out; omega
      · obtain ⟨i1, hi1⟩ : ∃ i1 : Nat, i1 = i + 1 := ⟨_, rfl⟩
        have hw1 : IntKind.u64.wrap ((i : Int) + 1) = (i1 : Int) := by rw [hi1]; exact hw
        have AL : Hid (aliveF 0 (A.take (i + 1)) = aliveF 0 (A.take i) ++ [i1]) := Lib.hid (by rw [TK.out, aliveF_snoc, TL.out, hi1]; simp)
        have GC : Hid (CbB (wr.alloc (.cells #[.int .u64 (i1 : Int)] 24)) wr.heap.size 24 #[.int .u64 (i1 : Int)]) := Lib.hid (CbB.new _ _ _)
        have b3 : Below wr.heap.size wr (wr.alloc (.cells #[.int .u64 (i1 : Int)] 24)) := (Below.refl _ _).alloc (Nat.le_refl _) _
        have N3 := Lib.hid (N1.out.ab b3)
        have B3 := Lib.hid (below_tr B1.out b3 B1.out.size)
        clear TK TL b3 hi1 hw
        go_wp2_with (first
          | (refine U64.wpList_appN rfl (.tmp 22) (.tmp 26) rfl (B := w.heap.size) N3.out rfl i1 rfl GC.out LN.out (Nat.le_trans B1.out.size (by simp)) ?_
             intro v5 w5 h5 g5
             have N5 := Lib.hid h5
             have B5 := Lib.hid (U64.below_grownO B3.out g5 (own_ge9 N3.out) B3.out.size)
             clear h5 g5))
        go_roundw
        case rel => exact ⟨i + 1, HLT.out, by go_num, by rw [AL.out]; exact N5.out, B5.out⟩
        case measure => simp [intOf]; have := HLT.out; omega
    · obtain rfl : i = n := by omega
      have AL : Hid (aliveF 0 (A.take i) = aliveH A) := Lib.hid (by rw [← HN.out, List.take_length]; rfl)
      clear hlt hi
      go_wp2_with fail
      go_ret
      exact ⟨_, rfl, by rw [← AL.out]; exact N1.out, B1.out⟩
end Go.Proofs.Ytdkdkjglbnlmcaa

namespace Go.Proofs.Ytdkdkjglbnlmcaa
open Go.RowKit
set_option linter.unusedVariables false

theorem infoH : (Try.prog.info? 66).map (fun i => (i.zero, i.size, i.bytes)) = some (some (.agg #[.int .u8 0, .int .u64 0, .bool false]), 3, 24) := by kernel_rfl
theorem wpList_appH {rest : List Oper} {ops : Array Oper} {o : Oper} {a : Act} {w : World} {Q : Exit → Act → World → Prop} (hgd : o.guard = none) (s x : Operand)
    (ho : o.op = .call { callee := .builtin .append, args := #[s, x], argTypes := #[45, 45] })
    {B G : Nat} {v : Value} {A : HL} (hown : w.ownsRow B 66 3 v A.length (hcs A)) (hs : a.eval s = v) (y : Hdl) (hx : a.eval x = .slice (some ⟨G, 0, none⟩) 1 1) (hG : CbB w G 66 #[.int .u8 (y.r : Int), .int .u64 (y.up : Int), .bool y.on]) (hl : A.length ≤ 100000) (hB : B ≤ w.heap.size)
    (h : ∀ v' w', w'.ownsRow B 66 3 v' (A.length + 1) (hcs (A ++ [y])) → w.grownBy w' v.ownBlock → wpList Try.prog ops Q rest (a.put o.dst v') w') : wpList Try.prog ops Q (o :: rest) a w := by
  obtain ⟨i0, hi0, hz0, hz1, hz2⟩ := info_parts infoH
  obtain ⟨v1, W1, hrun, r1, r2, _⟩ := run_append_own (P := Try.prog) w B 45 o.type 66 i0 _ 3 24 Try.underlying45 hi0 hz0 hz1 hz2 rfl (by decide) v A.length (hcs A) hown ⟨G, 0, none⟩ 1 1 (hc1 y) rfl (row_at hG) (by simp [hc1, Value.oneCell']) (by simp only [maxLen]; omega) (by omega) hB
  refine wpList_plain hgd fun K hK => ?_
  unfold Oper.wp execOp
  simp only [ho, resolve, invoke, builtin, Sem.run_bind, Sem.run_pure, Result.andThen_ok, List.map_toArray, List.map_cons, List.map_nil, hs, hx, hrun]
  refine hK _ _ (h v1 W1 ?_ r2)
  rw [hcs_app]
  exact r1
/-- behind a call that may add to the list, or turn it -/
def RcR (B g : Nat) (v : Value) (w : World) (u : Value) (A' : HL) (e : Ending) (w' : World) : Prop :=
  e = .returned u ∧ ∃ v', RcB w' B g v' A' ∧ Fr w w' (fun k => k = g ∨ v.ownBlock = some k)
theorem RcR.below {B g : Nat} {v : Value} {w : World} {u : Value} {A : HL} {e : Ending} {w' : World} (h : RcB w B g v A) (he : e = .returned u) (hb : Below w.heap.size w w') : RcR B g v w u A e w' := ⟨he, v, h.ab hb, Fr.of hb _⟩
set_option maxRecDepth 100000 in
set_option maxHeartbeats 1000000 in
theorem rmake_any {B g r u : Nat} {v : Value} {A : HL} {w : World} (hc : RcB w B g v A) (hm : A.length < 900) : Calls Try.prog 39 #[.pointer (some ⟨g, 0, none⟩), .int .u8 (r : Int), .int .u64 (u : Int)] w (RcR B g v w (.tuple #[.int .u64 ((putH A r u).1.1 : Int), .int .i64 ((putH A r u).1.2 : Int)]) (putH A r u).2) := by
  have HA := Lib.hid (ralive_any hc (by omega))
  have HC := Lib.hid hc
  unfold putH
  by_cases hf : 64 ≤ (aliveH A).length
  · rw [if_pos hf]
    have hfi : (64 : Int) ≤ ((aliveH A).length : Int) := by omega
    clear hc hm hf
    go_enter Try.func39, Try.ntmps39
    go_wp2_with fail
    refine HA.out.mono ?_
    rintro e w1 ⟨lv, rfl, hn, hb⟩
    obtain ⟨C1, c1, rfl⟩ := row_shape hn
    have B1 := Lib.hid hb
    clear hn hb HA
    go_wp2_with fail
    go_ret2
    exact RcR.below HC.out rfl B1.out
  · rw [if_neg hf]
    have hfi : ¬ (64 : Int) ≤ ((aliveH A).length : Int) := by omega
    have HM : Hid (A.length ≤ 100000) := Lib.hid (by omega)
    have hw : IntKind.u64.wrap ((A.length : Int) + 1) = ((A.length : Int) + 1) := by
      have := wide_u64 (A.length + 1) (by omega)
      simpa using this
    have hwl : (A.length : Int) < 1000 := by omega
    clear hc hm hf
    go_enter Try.func39, Try.ntmps39
    go_wp2_with fail
    refine HA.out.mono ?_
    rintro e w1 ⟨lv, rfl, hn, hb⟩
    obtain ⟨C1, c1, rfl⟩ := row_shape hn
    have B1 := Lib.hid hb
    have D1 := Lib.hid (HC.out.ab hb)
    have ha : Below w1.heap.size w1 (w1.alloc (.cells #[.int .u8 (r : Int), .int .u64 (u : Int), .bool true] 66)) := (Below.refl _ _).alloc (Nat.le_refl _) _
    have D2 := Lib.hid (D1.out.ab ha)
    have B2 := Lib.hid (below_tr B1.out ha B1.out.size)
    have GC : Hid (CbB (w1.alloc (.cells #[.int .u8 (r : Int), .int .u64 (u : Int), .bool true] 66)) w1.heap.size 66 #[.int .u8 (r : Int), .int .u64 (u : Int), .bool true]) := Lib.hid (CbB.new _ _ _)
    obtain ⟨C2, c2, hv⟩ := D1.out.shape
    have hg : w1.cell? ⟨g, 0, none⟩ = some (.slice C2 A.length c2) := by
      have := D1.out.box.cell (k := 0) rfl
      rw [hv] at this
      exact this
    have HV := Lib.hid hv
    clear hn hb HA ha hv
    go_wp2_with (first
      | (refine wpList_appH rfl (.tmp 16) (.tmp 20) rfl (B := B) D2.out.own (by rw [HV.out]; rfl) ⟨r, u, true⟩ rfl GC.out HM.out D2.out.low ?_
         intro v3 w3 h3 g3
         obtain ⟨C3, c3, hv3⟩ := row_shape h3
         subst hv3
         have R3 := Lib.hid h3
         have G3 := Lib.hid g3
         have X3 := Lib.hid (D2.out.box.fr (Fr.grown g3) (fun e => row_ne D2.out.own D2.out.box (by decide) e))
         have hf3 := X3.out.free 0
         have hx3 := X3.out.cell (k := 0) rfl
         have X4 := Lib.hid (X3.out.set 0 (.slice C3 (A.length + 1) c3))
         clear h3 g3))
    go_ret2
    have hfr : Fr w (w3.setCell ⟨g, 0, none⟩ (.slice C3 (A.length + 1) c3)) (fun k => k = g ∨ v.ownBlock = some k) := ((Fr.of B2.out _).tr ((Fr.grown G3.out).imp fun k hk => .inr hk)).tr ((Fr.grown (grown_cell w3 g 0 _)).imp fun k hk => .inl (by injection hk with hk; exact hk.symm))
    refine ⟨by simp, _, ⟨X4.out, ?_, Nat.le_trans HC.out.low hfr.size⟩, hfr⟩
    have h4 := row_fr R3.out (Fr.grown (grown_cell w3 g 0 (.slice C3 (A.length + 1) c3))) (fun k hk e => row_ne R3.out X3.out (by decide) (by rw [hk]; exact e.symm))
    rw [List.length_append, List.length_singleton]
    exact h4
set_option maxRecDepth 100000 in
theorem rattach_any {B g : Nat} {v : Value} {A : HL} {w : World} (hc : RcB w B g v A) (hm : A.length < 900) : Calls Try.prog 26 #[.pointer (some ⟨g, 0, none⟩)] w (RcR B g v w (.tuple #[.int .u64 ((putH A 15 0).1.1 : Int), .int .i64 ((putH A 15 0).1.2 : Int)]) (putH A 15 0).2) := by
  have HM := Lib.hid (rmake_any (r := 15) (u := 0) hc hm)
  clear hc hm
  generalize putH A 15 0 = P at *
  obtain ⟨⟨p1, p2⟩, A'⟩ := P
  try simp only at HM ⊢
  go_enter Try.func26, Try.ntmps26
  go_wp2_with fail
  refine HM.out.mono ?_
  rintro e w1 hp
  have hp2 := Lib.hid hp
  obtain ⟨rfl, _⟩ := hp
  clear HM
  go_wp2_with fail
  go_ret2
  exact hp2.out
set_option maxRecDepth 100000 in
set_option maxHeartbeats 1000000 in
theorem rgive_any {B g h r : Nat} {v : Value} {A : HL} {w : World} (hc : RcB w B g v A) (hm : A.length < 900) : Calls Try.prog 27 #[.pointer (some ⟨g, 0, none⟩), .int .u64 (h : Int), .int .u8 (r : Int)] w (RcR B g v w (.tuple #[.int .u64 ((giveH A h r).1.1 : Int), .int .i64 ((giveH A h r).1.2 : Int)]) (giveH A h r).2) := by
  have HT := Lib.hid (rat25_any (h := h) hc (by omega))
  have HP := Lib.hid fun W (hW : Below w.heap.size w W) => rmake_any (r := r) (u := h) (hc.ab hW) hm
  have HC := Lib.hid hc
  unfold AtR atP hagg at HT
  unfold giveH
  clear hc hm
  cases ha : atH A h with
  | none =>
    rw [ha] at HT
    clear HP ha
    go_enter Try.func27, Try.ntmps27
    go_wp2_with fail
    refine HT.out.mono ?_
    rintro e w1 ⟨rfl, hb⟩
    have B1 := Lib.hid hb
    clear hb HT
    go_wp2_with fail
    go_ret2
    exact RcR.below HC.out rfl (B1.out.alloc B1.out.size _)
  | some x =>
    rw [ha] at HT
    try simp only at HT ⊢
    have d1 : (bits .and .u8 (x.r : Int) 8 == 0) = noGive x.r := rfl
    have d2 : (bits .andNot .u8 (r : Int) (x.r : Int) != 0) = overR r x.r := rfl
    generalize noGive x.r = b1 at *
    generalize overR r x.r = b2 at *
    clear ha
    cases b1
    · cases b2
      · simp only [Bool.or_self, cond_false]
        generalize putH A r h = P at *
        obtain ⟨⟨p1, p2⟩, A'⟩ := P
        try simp only at HP ⊢
        go_enter Try.func27, Try.ntmps27
        go_wp2_with fail
        refine HT.out.mono ?_
        rintro e w1 ⟨rfl, hb⟩
        have B2 := Lib.hid (hb.alloc hb.size (.cells #[.int .u8 (x.r : Int), .int .u64 (x.up : Int), .bool x.on] 66))
        clear hb HT
        go_wp2_with fail
        refine (HP.out _ B2.out).mono ?_
        rintro e w3 ⟨rfl, v', h1, h2⟩
        have H1 := Lib.hid h1
        have H2 := Lib.hid ((Fr.of B2.out _).tr h2)
        clear h1 h2 HP
        go_wp2_with fail
        go_ret2
        exact ⟨rfl, v', H1.out, H2.out⟩
      · go_enter Try.func27, Try.ntmps27
        go_wp2_with fail
        refine HT.out.mono ?_
        rintro e w1 ⟨rfl, hb⟩
        have B1 := Lib.hid hb
        clear hb HT HP
        go_wp2_with fail
        go_ret2
        exact RcR.below HC.out rfl (B1.out.alloc B1.out.size _)
    · go_enter Try.func27, Try.ntmps27
      go_wp2_with fail
      refine HT.out.mono ?_
      rintro e w1 ⟨rfl, hb⟩
      have B1 := Lib.hid hb
      clear hb HT HP
      go_wp2_with fail
      go_ret2
      exact RcR.below HC.out rfl (B1.out.alloc B1.out.size _)
set_option maxRecDepth 100000 in
set_option maxHeartbeats 1000000 in
theorem rcheck_any {B g h need : Nat} {v : Value} {A : HL} {w : World} (hc : RcB w B g v A) (hm : A.length < 900) : Calls Try.prog 30 #[.pointer (some ⟨g, 0, none⟩), .int .u64 (h : Int), .int .u8 (need : Int)] w fun e w' => e = .returned (.int .i64 (checkH A h need : Int)) ∧ Below w.heap.size w w' := by
  have HT := Lib.hid (rat25_any (h := h) hc (by omega))
  unfold AtR atP hagg at HT
  unfold checkH
  clear hc hm
  cases ha : atH A h with
  | none =>
    rw [ha] at HT
    clear ha
    go_enter Try.func30, Try.ntmps30
    go_wp2_with fail
    refine HT.out.mono ?_
    rintro e w1 ⟨rfl, hb⟩
    have B1 := Lib.hid hb
    clear hb HT
    go_wp2_with fail
    go_ret
    exact ⟨rfl, B1.out.alloc B1.out.size _⟩
  | some x =>
    rw [ha] at HT
    try simp only at HT ⊢
    have d2 : (bits .andNot .u8 (need : Int) (x.r : Int) != 0) = overR need x.r := rfl
    generalize overR need x.r = b2 at *
    clear ha
    cases b2
    all_goals
      go_enter Try.func30, Try.ntmps30
      go_wp2_with fail
      refine HT.out.mono ?_
      rintro e w1 ⟨rfl, hb⟩
      have B1 := Lib.hid hb
      clear hb HT
      go_wp2_with fail
      go_ret
      exact ⟨rfl, B1.out.alloc B1.out.size _⟩
end Go.Proofs.Ytdkdkjglbnlmcaa

namespace Go.Proofs.Ytdkdkjglbnlmcaa
open Go.RowKit
set_option linter.unusedVariables false

/-- some of them taken back -/
def offL (A : HL) (L : List Nat) : HL := A.mapIdx fun j x => ⟨x.r, x.up, x.on && !decide (j + 1 ∈ L)⟩
theorem offL_len (A : HL) (L : List Nat) : (offL A L).length = A.length := by simp [offL]
theorem offL_at (A : HL) (L : List Nat) (i : Nat) : (offL A L)[i]? = (A[i]?).map fun x => ⟨x.r, x.up, x.on && !decide (i + 1 ∈ L)⟩ := by
  unfold offL
  rw [List.getElem?_mapIdx]
theorem offL_nil (A : HL) : offL A [] = A := by
  apply List.ext_getElem?
  intro i
  rw [offL_at]
  cases A[i]? <;> simp
theorem offL_snoc {A : HL} {L : List Nat} {i : Nat} {x : Hdl} (h : A[i]? = some x) : (offL A L).set i ⟨x.r, x.up, false⟩ = offL A (L ++ [i + 1]) := by
  have hi : i < A.length := (List.getElem?_eq_some_iff.1 h).1
  apply List.ext_getElem?
  intro j
  rw [List.getElem?_set, offL_len]
  by_cases e : i = j
  · subst e
    rw [if_pos rfl, if_pos hi, offL_at, h]
    simp
  · rw [if_neg e, offL_at, offL_at]
    cases A[j]? with
    | none => rfl
    | some y =>
      have : (j + 1 ∈ L ++ [i + 1]) ↔ j + 1 ∈ L := by
        rw [List.mem_append, List.mem_singleton]
        constructor
        · rintro (h | h)
          · exact h
          · omega
        · exact .inl
      simp [this]
theorem offL_clear {A : HL} {L : List Nat} (h : ∀ i, i < A.length → i + 1 ∈ L) : offL A L = clearH A := by
  apply List.ext_getElem?
  intro j
  rw [offL_at]
  unfold clearH
  rw [List.getElem?_map]
  cases hj : A[j]? with
  | none => rfl
  | some y => simp [h j (List.getElem?_eq_some_iff.1 hj).1]
theorem offL_kill {A : HL} {L : List Nat} {v : Nat} (h : ∀ i, i < A.length → (i + 1 ∈ L ↔ klH A v (i + 1) = true)) : offL A L = killH A v := by
  apply List.ext_getElem?
  intro j
  rw [offL_at, killH_at]
  cases hj : A[j]? with
  | none => rfl
  | some y =>
    have h1 := h j (List.getElem?_eq_some_iff.1 hj).1
    unfold klH at h1
    have h2 : decide (j + 1 ∈ L) = (decide (j + 1 = v) || belowH A v (j + 1)) := by
      rw [Bool.eq_iff_iff, decide_eq_true_eq]
      exact h1
    simp only [Option.map_some]
    rw [h2]
theorem hcs_set : ∀ {A : HL} {i : Nat} {x : Hdl}, A[i]? = some x → hcs (A.set i ⟨x.r, x.up, false⟩) = (hcs A).set (i * 3 + 2) (.bool false)
  | [], i, x, h => by simp at h
  | y :: r, 0, x, h => by
    simp only [List.getElem?_cons_zero, Option.some.injEq] at h
    subst h
    simp [hcs, hc1]
  | y :: r, i + 1, x, h => by
    have ih := hcs_set (A := r) (i := i) (x := x) (by simpa using h)
    have e : (i + 1) * 3 + 2 = (hc1 y).length + (i * 3 + 2) := by simp only [hc1, List.length_cons, List.length_nil]; omega
    rw [List.set_cons_succ]
    simp only [hcs]
    rw [ih, e, List.set_append, if_neg (by omega), Nat.add_sub_cancel_left]
theorem row_set {w : World} {B n s g c k : Nat} {e : TypeId} {xs : List Value} (h : w.ownsRow B e s (.slice (some ⟨g, 0, none⟩) n c) n xs) (hk : k < n * s) (u : Value) : (w.setCell ⟨g, k, none⟩ u).ownsRow B e s (.slice (some ⟨g, 0, none⟩) n c) n (xs.set k u) := by
  obtain ⟨hl, h2⟩ := h
  refine ⟨by rw [List.length_set]; exact hl, ?_⟩
  rcases h2 with ⟨h3, _⟩ | ⟨g', cap, cur, h3, hB, hb, hn, hc, hs, ht⟩
  · cases h3
  · injection h3 with h3 _ h4
    injection h3 with h3
    injection h3 with h3
    subst h3 h4
    refine .inr ⟨g, c, cur.setIfInBounds k u, rfl, hB, heap_setCell_same w g k _ _ u hb, hn, hc, by simpa using hs, ?_⟩
    rw [Array.toList_setIfInBounds, List.take_set, ht]
theorem RcB.off {w : World} {B g gb cap i : Nat} {A : HL} {x : Hdl} (h : RcB w B g (.slice (some ⟨gb, 0, none⟩) A.length cap) A) (hx : A[i]? = some x) : RcB (w.setCell ⟨gb, i * 3 + 2, none⟩ (.bool false)) B g (.slice (some ⟨gb, 0, none⟩) A.length cap) (A.set i ⟨x.r, x.up, false⟩) := by
  have hi : i < A.length := (List.getElem?_eq_some_iff.1 hx).1
  have hne : g ≠ gb := fun e => row_ne h.own h.box (by decide) (by rw [e]; rfl)
  refine ⟨h.box.far hne _, ?_, by simpa using h.low⟩
  rw [List.length_set, hcs_set hx]
  exact row_set h.own (by omega) _
set_option maxRecDepth 100000 in
set_option maxHeartbeats 1000000 in
theorem rclear_any {B g : Nat} {v : Value} {A : HL} {w : World} (hc : RcB w B g v A) (hm : A.length < 1000) : Calls Try.prog 33 #[.pointer (some ⟨g, 0, none⟩)] w fun e w' => (∃ u, e = .returned u) ∧ RcB w' B g v (clearH A) ∧ Fr w w' (fun k => k = g ∨ v.ownBlock = some k) := by
  obtain ⟨n, hn⟩ : ∃ n, A.length = n := ⟨_, rfl⟩
  have HC := Lib.hid hc
  have HN := Lib.hid hn
  have hmb : (n : Int) < 1000 := by omega
  obtain ⟨C, cap, hv⟩ := hc.shape
  rw [hn] at hv
  clear hc hn hm
  go_enter Try.func33, Try.ntmps33
  go_wp2_with fail
  go_loopw [2] (fun z wr => ∃ i : Nat, i ≤ n ∧ z = .int .i64 (i : Int) ∧ RcB wr B g v (offL A ((List.range i).map (· + 1))) ∧ Fr w wr (fun k => k = g ∨ v.ownBlock = some k)) (fun z _ => n - (intOf z).toNat)
  case atStart => exact ⟨0, Nat.zero_le _, rfl, by rw [List.range_zero, List.map_nil, offL_nil]; exact HC.out, Fr.of (Below.refl _ _) _⟩
  case round =>
    obtain ⟨i, hi, rfl, hr, hf⟩ := hrel
    have R1 := Lib.hid hr
    have F1 := Lib.hid hf
    have hg : wr.cell? ⟨g, 0, none⟩ = some (.slice C n cap) := by
      have := R1.out.box.cell (k := 0) rfl
      rw [hv] at this
      exact this
    clear hr hf
    by_cases hlt : i < n
    · obtain ⟨x, hx⟩ : ∃ x, A[i]? = some x := ⟨_, List.getElem?_eq_getElem (by rw [HN.out]; exact hlt)⟩
      have hx' : (offL A ((List.range i).map (· + 1)))[i]? = some ⟨x.r, x.up, x.on && !decide (i + 1 ∈ (List.range i).map (· + 1))⟩ := by rw [offL_at, hx]; rfl
      obtain ⟨gb, cap', hv', x0, x1, x2, hfz⟩ := R1.out.form hx'
      rw [hv, offL_len, HN.out] at hv'
      injection hv' with hv1 _ hv2
      subst hv1 hv2
      have hf2 := hfz (i * 3 + 2)
      have R2 : Hid (RcB (wr.setCell ⟨gb, i * 3 + 2, none⟩ (.bool false)) B g v (offL A ((List.range (i + 1)).map (· + 1)))) := Lib.hid (by
        have h1 := R1.out
        have hv3 : v = .slice (some ⟨gb, 0, none⟩) (offL A ((List.range i).map (· + 1))).length cap := by rw [offL_len, HN.out]; exact hv
        rw [hv3] at h1 ⊢
        have h2 := h1.off hx'
        rw [List.range_succ, List.map_append, List.map_cons, List.map_nil, ← offL_snoc hx]
        exact h2)
      have F2 : Hid (Fr w (wr.setCell ⟨gb, i * 3 + 2, none⟩ (.bool false)) (fun k => k = g ∨ v.ownBlock = some k)) := Lib.hid (F1.out.tr ((Fr.grown (grown_cell wr gb (i * 3 + 2) (.bool false))).imp fun k hk => .inr (by rw [hv]; exact hk)))
      have HLT := Lib.hid hlt
      have hlti : (i : Int) < (n : Int) := by omega
      clear hx hx' hlt hi x0 x1 hfz R1 F1
      go_wp2_with fail
      go_roundw
      case rel => exact ⟨i + 1, HLT.out, by go_num, R2.out, F2.out⟩
      case measure => simp [intOf]; have := HLT.out; omega
    · obtain rfl : i = n := by omega
      have hE : offL A ((List.range i).map (· + 1)) = clearH A := offL_clear fun j hj => List.mem_map.2 ⟨j, List.mem_range.2 (by rw [HN.out] at hj; exact hj), rfl⟩
      have h1 := R1.out
      rw [hE] at h1
      have R2 := Lib.hid h1
      clear h1 hE hlt hi
      go_wp2_with fail
      go_end0
      exact ⟨⟨_, rfl⟩, R2.out, F1.out⟩
theorem belowF_none {A : HL} {h k : Nat} (ha : atH A k = none) : ∀ n, belowF n A h k = false
  | 0 => rfl
  | n + 1 => by simp [belowF, upH, ha]
set_option maxRecDepth 100000 in
set_option maxHeartbeats 2000000 in
theorem rbelow_yes {B g h k : Nat} {v : Value} {A : HL} {w : World} {x0 y0 : Hdl} (hc : RcB w B g v A) (hA : RightA A) (hm : A.length < 900) (hh : atH A h = some x0) (hk : atH A k = some y0) : Calls Try.prog 32 #[.pointer (some ⟨g, 0, none⟩), .int .u64 (h : Int), .int .u64 (k : Int)] w fun e w' => e = .returned (.bool (belowF A.length A h k)) ∧ Below w.heap.size w w' := by
  have H1 := Lib.hid (rat25_any (h := h) hc (by omega))
  have H2 := Lib.hid fun W (hW : Below w.heap.size w W) => rat25_any (h := k) (hc.ab hW) (by omega)
  have HC := Lib.hid hc
  have HA := Lib.hid hA
  have HK := Lib.hid hk
  unfold AtR atP hagg at H1 H2
  rw [hh] at H1
  rw [hk] at H2
  try simp only at H1 H2
  have HM := Lib.hid hm
  clear hc hA hm hh hk
  go_enter Try.func32, Try.ntmps32
  go_wp2_with fail
  refine H1.out.mono ?_
  rintro e w1 ⟨rfl, hb⟩
  have B2 := Lib.hid (hb.alloc hb.size (.cells #[.int .u8 (x0.r : Int), .int .u64 (x0.up : Int), .bool x0.on] 66))
  clear hb H1
  go_wp2_with fail
  refine (H2.out _ B2.out).mono ?_
  rintro e w3 ⟨rfl, hb⟩
  have B3 := Lib.hid (below_tr B2.out hb B2.out.size)
  have B4 := Lib.hid (B3.out.alloc B3.out.size (.cells #[.int .u8 (y0.r : Int), .int .u64 (y0.up : Int), .bool y0.on] 66))
  have C4 := Lib.hid (CbB.new w3 66 #[.int .u8 (y0.r : Int), .int .u64 (y0.up : Int), .bool y0.on])
  have S3 := Lib.hid B3.out.size
  clear hb H2
  go_wp2_with fail
  generalize w3.heap.size = bx at *
  go_loopg [] k (fun z wr => ∃ (k' : Nat) (y : Hdl), k' ≤ z ∧ atH A k' = some y ∧ belowF A.length A h k' = belowF A.length A h k ∧ CbB wr bx 66 #[.int .u8 (y.r : Int), .int .u64 (y.up : Int), .bool y.on] ∧ Below w.heap.size w wr)
  case atStart => exact ⟨k, y0, Nat.le_refl _, HK.out, rfl, C4.out, B4.out⟩
  case round =>
    obtain ⟨k', y, hz, hy, hE, hb, hbw⟩ := hrel
    have HZ := Lib.hid hz
    have CB := Lib.hid hb
    have BW := Lib.hid hbw
    have hup : upH A k' = y.up := by unfold upH; rw [hy]
    have hst := belowF_step HA.out h k'
    rw [hE, hup] at hst
    have c0 : wr.cell? ⟨bx, 0, none⟩ = some (.int .u8 (y.r : Int)) := CB.out.cell (k := 0) rfl
    have c1 : wr.cell? ⟨bx, 1, none⟩ = some (.int .u64 (y.up : Int)) := CB.out.cell (k := 1) rfl
    have c2 : wr.cell? ⟨bx, 2, none⟩ = some (.bool y.on) := CB.out.cell (k := 2) rfl
    have f0 := CB.out.free 0
    have f1 := CB.out.free 1
    have f2 := CB.out.free 2
    by_cases h0 : y.up = 0
    · have d1 : ((y.up : Int) != 0) = false := by simp [h0]
      have HR : Hid (belowF A.length A h k = false) := Lib.hid (by rw [hst]; simp [h0])
      clear hz hy hE hb hbw hup hst h0
      go_wp2_with fail
      go_ret
      exact ⟨by rw [HR.out]; rfl, BW.out⟩
    · have d1 : ((y.up : Int) != 0) = true := by simp [h0]
      by_cases h1 : y.up = h
      · have d2 : ((y.up : Int) == (h : Int)) = true := by simp [h1]
        have HR : Hid (belowF A.length A h k = true) := Lib.hid (by rw [hst]; simp [h1]; exact h1 ▸ h0)
        clear hz hy hE hb hbw hup hst h0 h1
        go_wp2_with fail
        go_ret
        exact ⟨by rw [HR.out]; rfl, BW.out⟩
      · have d2 : ((y.up : Int) == (h : Int)) = false := by simp; omega
        have hlt : y.up < k' := by
          rcases HA.out.upLt k' with h2 | ⟨h2, _⟩
          · rw [hup] at h2; exact absurd h2 h0
          · rwa [hup] at h2
        obtain ⟨q1, q2, q3⟩ := atH_some.1 hy
        obtain ⟨y2, hy2⟩ := Option.isSome_iff_exists.1 (HA.out.on _ _ q2 q3 h0)
        obtain ⟨p1, p2, p3⟩ := atH_some.1 hy2
        obtain ⟨i, hi⟩ : ∃ i, i = y.up - 1 := ⟨_, rfl⟩
        rw [← hi] at p2
        have d3 : IntKind.u64.wrap ((y.up : Int) - 1) = (i : Int) := by rw [show (y.up : Int) - 1 = (i : Int) by omega]; exact wide_u64 i (by have := (List.getElem?_eq_some_iff.1 p2).1; have := HM.out; omega)
        have RC := HC.out.ab hbw
        obtain ⟨gb, cap, rfl, e0, e1, e2, _⟩ := RC.form p2
        have hg : wr.cell? ⟨g, 0, none⟩ = some (.slice (some ⟨gb, 0, none⟩) A.length cap) := RC.box.cell (k := 0) rfl
        have hil : i < A.length := (List.getElem?_eq_some_iff.1 p2).1
        have d4 : (i : Int) < (A.length : Int) := by omega
        have HL := Lib.hid hlt
        have HY2 := Lib.hid hy2
        have HE2 : Hid (belowF A.length A h y.up = belowF A.length A h k) := Lib.hid (by
          have e1 : (y.up != 0) = true := by simpa using h0
          have e2 : (y.up == h) = false := by simpa using h1
          rw [e1, e2, Bool.true_and, Bool.false_or] at hst
          exact hst.symm)
        clear hz hy hE hb hbw hup hst h0 h1 hlt q1 q2 q3 hy2 p1 p2 p3 hi RC hil
        generalize A.length = n at *
        go_wp2_with fail
        go_region
        have CN : Hid (CbB ((((wr.setCell ⟨bx, 0, none⟩ (.int .u8 (y2.r : Int))).setCell ⟨bx, 1, none⟩ (.int .u64 (y2.up : Int))).setCell ⟨bx, 2, none⟩ (.bool y2.on)).drew) bx 66 #[.int .u8 (y2.r : Int), .int .u64 (y2.up : Int), .bool y2.on]) := Lib.hid (((CB.out.set 0 (.int .u8 (y2.r : Int))).set 1 (.int .u64 (y2.up : Int))).set 2 (.bool y2.on))
        have BN : Hid (Below w.heap.size w ((((wr.setCell ⟨bx, 0, none⟩ (.int .u8 (y2.r : Int))).setCell ⟨bx, 1, none⟩ (.int .u64 (y2.up : Int))).setCell ⟨bx, 2, none⟩ (.bool y2.on)).drew)) := Lib.hid (((BW.out.setCell (p := ⟨bx, 0, none⟩) S3.out _).setCell (p := ⟨bx, 1, none⟩) S3.out _).setCell (p := ⟨bx, 2, none⟩) S3.out _).drew
        go_wp2_with fail
        go_roundg y.up
        case measure => have := HL.out; have := HZ.out; omega
        case rel => exact ⟨y.up, y2, Nat.le_refl _, HY2.out, HE2.out, CN.out, BN.out⟩
theorem rbelow_no {B g h k : Nat} {v : Value} {A : HL} {w : World} (hc : RcB w B g v A) (hm : A.length < 900) (hh : ¬ ((atP A h).2 = true ∧ (atP A k).2 = true)) : Calls Try.prog 32 #[.pointer (some ⟨g, 0, none⟩), .int .u64 (h : Int), .int .u64 (k : Int)] w fun e w' => e = .returned (.bool false) ∧ Below w.heap.size w w' := by
  have H1 := Lib.hid (rat25_any (h := h) hc (by omega))
  have H2 := Lib.hid fun W (hW : Below w.heap.size w W) => rat25_any (h := k) (hc.ab hW) (by omega)
  unfold AtR hagg at H1 H2
  generalize atP A h = x0 at *
  generalize atP A k = y0 at *
  obtain ⟨x0, b0⟩ := x0
  obtain ⟨y0, b1⟩ := y0
  try simp only at H1 H2 hh
  have d1 : (b0 = false ∧ b1 = false) ∨ (b0 = false ∧ b1 = true) ∨ (b0 = true ∧ b1 = false) := by
    cases b0 <;> cases b1 <;> simp at hh ⊢
  clear hh hc hm
  rcases d1 with ⟨rfl, rfl⟩ | ⟨rfl, rfl⟩ | ⟨rfl, rfl⟩
  all_goals
    go_enter Try.func32, Try.ntmps32
    go_wp2_with fail
    refine H1.out.mono ?_
    rintro e w1 ⟨rfl, hb⟩
    have B2 := Lib.hid (hb.alloc hb.size (.cells #[.int .u8 (x0.r : Int), .int .u64 (x0.up : Int), .bool x0.on] 66))
    clear hb H1
    go_wp2_with fail
    refine (H2.out _ B2.out).mono ?_
    rintro e w3 ⟨rfl, hb⟩
    have B3 := Lib.hid (below_tr B2.out hb B2.out.size)
    clear hb H2
    go_wp2_with fail
    go_ret
    exact ⟨rfl, B3.out.alloc B3.out.size _⟩
theorem rbelow_any {B g h k : Nat} {v : Value} {A : HL} {w : World} (hc : RcB w B g v A) (hA : RightA A) (hm : A.length < 900) : Calls Try.prog 32 #[.pointer (some ⟨g, 0, none⟩), .int .u64 (h : Int), .int .u64 (k : Int)] w fun e w' => e = .returned (.bool (belowH A h k)) ∧ Below w.heap.size w w' := by
  unfold belowH
  cases hh : atH A h with
  | none => exact rbelow_no hc hm (fun ⟨h1, _⟩ => by unfold atP at h1; rw [hh] at h1; cases h1)
  | some x0 =>
    cases hk : atH A k with
    | none =>
      rw [belowF_none hk]
      exact rbelow_no hc hm (fun ⟨_, h1⟩ => by unfold atP at h1; rw [hk] at h1; cases h1)
    | some y0 => exact rbelow_yes hc hA hm hh hk
end Go.Proofs.Ytdkdkjglbnlmcaa

namespace Go.Proofs.Ytdkdkjglbnlmcaa
open Go.RowKit
set_option linter.unusedVariables false

/-- which numbers are to be taken back -/
def gonL (A : HL) (v i : Nat) : List Nat := ((List.range i).map (· + 1)).filter (klH A v)
theorem gonL_succ (A : HL) (v i : Nat) : gonL A v (i + 1) = gonL A v i ++ (bif klH A v (i + 1) then [i + 1] else []) := by
  unfold gonL
  rw [List.range_succ, List.map_append, List.filter_append]
  cases h : klH A v (i + 1) <;> simp [h]
theorem gonL_len (A : HL) (v i : Nat) : (gonL A v i).length ≤ i := by
  unfold gonL
  exact Nat.le_trans (List.length_filter_le _ _) (by simp)
theorem gonL_mem (A : HL) (v i j : Nat) : j + 1 ∈ gonL A v i ↔ j < i ∧ klH A v (j + 1) = true := by
  unfold gonL
  rw [List.mem_filter, List.mem_map]
  constructor
  · rintro ⟨⟨q, h1, h2⟩, h3⟩
    have h4 := List.mem_range.1 h1
    exact ⟨by omega, h3⟩
  · rintro ⟨h1, h2⟩
    exact ⟨⟨j, List.mem_range.2 h1, rfl⟩, h2⟩
theorem gonL_in {A : HL} {v x : Nat} (h : x ∈ gonL A v A.length) : ∃ j, x = j + 1 ∧ j < A.length := by
  unfold gonL at h
  rw [List.mem_filter, List.mem_map] at h
  obtain ⟨⟨q, h1, h2⟩, _⟩ := h
  exact ⟨q, h2.symm, List.mem_range.1 h1⟩
set_option maxRecDepth 100000 in
theorem rrevoke_none {B g h vv : Nat} {v : Value} {A : HL} {w : World} (hc : RcB w B g v A) (hm : A.length < 900) (hh : ¬ ((atP A h).2 = true ∧ (atP A vv).2 = true)) : Calls Try.prog 28 #[.pointer (some ⟨g, 0, none⟩), .int .u64 (h : Int), .int .u64 (vv : Int)] w fun e w' => e = .returned (.int .i64 7) ∧ Below w.heap.size w w' := by
  have H1 := Lib.hid (rat25_any (h := h) hc (by omega))
  have H2 := Lib.hid fun W (hW : Below w.heap.size w W) => rat25_any (h := vv) (hc.ab hW) (by omega)
  unfold AtR hagg at H1 H2
  generalize atP A h = x0 at *
  generalize atP A vv = y0 at *
  obtain ⟨x0, b0⟩ := x0
  obtain ⟨y0, b1⟩ := y0
  try simp only at H1 H2 hh
  have d1 : (b0 = false ∧ b1 = false) ∨ (b0 = false ∧ b1 = true) ∨ (b0 = true ∧ b1 = false) := by
    cases b0 <;> cases b1 <;> simp at hh ⊢
  clear hh hc hm
  rcases d1 with ⟨rfl, rfl⟩ | ⟨rfl, rfl⟩ | ⟨rfl, rfl⟩
  all_goals
    go_enter Try.func28, Try.ntmps28
    go_wp2_with fail
    refine H1.out.mono ?_
    rintro e w1 ⟨rfl, hb⟩
    have B2 := Lib.hid (hb.alloc hb.size (.cells #[.int .u8 (x0.r : Int), .int .u64 (x0.up : Int), .bool x0.on] 66))
    have X2 := Lib.hid (CbB.new w1 66 #[.int .u8 (x0.r : Int), .int .u64 (x0.up : Int), .bool x0.on])
    clear hb H1
    go_wp2_with fail
    refine (H2.out _ B2.out).mono ?_
    rintro e w3 ⟨rfl, hb⟩
    have B3 := Lib.hid (below_tr B2.out hb B2.out.size)
    have B4 := Lib.hid (B3.out.alloc B3.out.size (.cells #[.int .u8 (y0.r : Int), .int .u64 (y0.up : Int), .bool y0.on] 66))
    have X4 := Lib.hid ((X2.out.ab hb).ab ((Below.refl _ _).alloc (Nat.le_refl _) (.cells #[.int .u8 (y0.r : Int), .int .u64 (y0.up : Int), .bool y0.on] 66)))
    have x40 := X4.out.cell (k := 0) rfl
    clear hb H2 X2
    go_wp2_with fail
    go_ret
    exact ⟨rfl, B4.out⟩
set_option maxRecDepth 100000 in
set_option maxHeartbeats 1000000 in
theorem rrevoke_no {B g h vv : Nat} {v : Value} {A : HL} {w : World} {x0 y0 : Hdl} (hc : RcB w B g v A) (hA : RightA A) (hm : A.length < 900) (ha : atH A h = some x0) (hb : atH A vv = some y0) (hn : mayRv A x0 h vv = false) : Calls Try.prog 28 #[.pointer (some ⟨g, 0, none⟩), .int .u64 (h : Int), .int .u64 (vv : Int)] w fun e w' => e = .returned (.int .i64 250) ∧ Below w.heap.size w w' := by
  have H1 := Lib.hid (rat25_any (h := h) hc (by omega))
  have H2 := Lib.hid fun W (hW : Below w.heap.size w W) => rat25_any (h := vv) (hc.ab hW) (by omega)
  have HB := Lib.hid fun W (hW : Below w.heap.size w W) => rbelow_any (h := h) (k := vv) (hc.ab hW) hA hm
  unfold AtR atP hagg at H1 H2
  rw [ha] at H1
  rw [hb] at H2
  try simp only at H1 H2
  unfold mayRv at hn
  rw [Bool.or_eq_false_iff, decide_eq_false_iff_not] at hn
  have d0 : ((h : Int) != (vv : Int)) = true := by have := hn.1; simp; omega
  have d1 : (bits .and .u8 (x0.r : Int) 8 == 0) = noGive x0.r := rfl
  have hn2 := hn.2
  generalize noGive x0.r = b1 at *
  generalize belowH A h vv = b2 at *
  clear hc ha hb hm hn hA
  cases b1
  · obtain rfl : b2 = false := by simpa using hn2
    clear hn2
    go_enter Try.func28, Try.ntmps28
    go_wp2_with fail
    refine H1.out.mono ?_
    rintro e w1 ⟨rfl, hb⟩
    have B2 := Lib.hid (hb.alloc hb.size (.cells #[.int .u8 (x0.r : Int), .int .u64 (x0.up : Int), .bool x0.on] 66))
    have X2 := Lib.hid (CbB.new w1 66 #[.int .u8 (x0.r : Int), .int .u64 (x0.up : Int), .bool x0.on])
    clear hb H1
    go_wp2_with fail
    refine (H2.out _ B2.out).mono ?_
    rintro e w3 ⟨rfl, hb⟩
    have B3 := Lib.hid (below_tr B2.out hb B2.out.size)
    have B4 := Lib.hid (B3.out.alloc B3.out.size (.cells #[.int .u8 (y0.r : Int), .int .u64 (y0.up : Int), .bool y0.on] 66))
    have X4 := Lib.hid ((X2.out.ab hb).ab ((Below.refl _ _).alloc (Nat.le_refl _) (.cells #[.int .u8 (y0.r : Int), .int .u64 (y0.up : Int), .bool y0.on] 66)))
    have x40 := X4.out.cell (k := 0) rfl
    clear hb H2 X2
    go_wp2_with fail
    refine (HB.out _ B4.out).mono ?_
    rintro e w5 ⟨rfl, hb⟩
    have B5 := Lib.hid (below_tr B4.out hb B4.out.size)
    clear hb HB
    go_wp2_with fail
    go_ret
    exact ⟨rfl, B5.out⟩
  · clear hn2 HB
    go_enter Try.func28, Try.ntmps28
    go_wp2_with fail
    refine H1.out.mono ?_
    rintro e w1 ⟨rfl, hb⟩
    have B2 := Lib.hid (hb.alloc hb.size (.cells #[.int .u8 (x0.r : Int), .int .u64 (x0.up : Int), .bool x0.on] 66))
    have X2 := Lib.hid (CbB.new w1 66 #[.int .u8 (x0.r : Int), .int .u64 (x0.up : Int), .bool x0.on])
    clear hb H1
    go_wp2_with fail
    refine (H2.out _ B2.out).mono ?_
    rintro e w3 ⟨rfl, hb⟩
    have B3 := Lib.hid (below_tr B2.out hb B2.out.size)
    have B4 := Lib.hid (B3.out.alloc B3.out.size (.cells #[.int .u8 (y0.r : Int), .int .u64 (y0.up : Int), .bool y0.on] 66))
    have X4 := Lib.hid ((X2.out.ab hb).ab ((Below.refl _ _).alloc (Nat.le_refl _) (.cells #[.int .u8 (y0.r : Int), .int .u64 (y0.up : Int), .bool y0.on] 66)))
    have x40 := X4.out.cell (k := 0) rfl
    clear hb H2 X2
    go_wp2_with fail
    go_ret
    exact ⟨rfl, B4.out⟩
set_option maxRecDepth 100000 in
set_option maxHeartbeats 4000000 in
theorem rrevoke_yes {B g h vv : Nat} {v : Value} {A : HL} {w : World} {x0 y0 : Hdl} (hc : RcB w B g v A) (hA : RightA A) (hm : A.length < 900) (ha : atH A h = some x0) (hb : atH A vv = some y0) (hn : mayRv A x0 h vv = true) : Calls Try.prog 28 #[.pointer (some ⟨g, 0, none⟩), .int .u64 (h : Int), .int .u64 (vv : Int)] w (RcR B g v w (.int .i64 0) (killH A vv)) := by
  have H1 := Lib.hid (rat25_any (h := h) hc (by omega))
  have H2 := Lib.hid fun W (hW : Below w.heap.size w W) => rat25_any (h := vv) (hc.ab hW) (by omega)
  have HB := Lib.hid fun W (hW : Below w.heap.size w W) => rbelow_any (h := h) (k := vv) (hc.ab hW) hA hm
  unfold AtR atP hagg at H1 H2
  rw [ha] at H1
  rw [hb] at H2
  try simp only at H1 H2
  have HC := Lib.hid hc
  have HA := Lib.hid hA
  obtain ⟨n, hnl⟩ : ∃ n, A.length = n := ⟨_, rfl⟩
  have HN := Lib.hid hnl
  have HM : Hid (n < 900) := Lib.hid (by omega)
  have hmb : (n : Int) < 900 := by omega
  obtain ⟨C, cap, hv⟩ := hc.shape
  rw [hnl] at hv
  unfold mayRv at hn
  have d1 : (bits .and .u8 (x0.r : Int) 8 == 0) = noGive x0.r := rfl
  by_cases hhv : h = vv
  · have d0 : ((h : Int) != (vv : Int)) = false := by simp [hhv]
    clear hc hA hm ha hb hn hhv HB d1 hnl
    go_enter Try.func28, Try.ntmps28
    go_wp2_with fail
    refine H1.out.mono ?_
    rintro e w1 ⟨rfl, hb⟩
    have B2 := Lib.hid (hb.alloc hb.size (.cells #[.int .u8 (x0.r : Int), .int .u64 (x0.up : Int), .bool x0.on] 66))
    have X2 := Lib.hid (CbB.new w1 66 #[.int .u8 (x0.r : Int), .int .u64 (x0.up : Int), .bool x0.on])
    clear hb H1
    go_wp2_with fail
    refine (H2.out _ B2.out).mono ?_
    rintro e w3 ⟨rfl, hb⟩
    have B3 := Lib.hid (below_tr B2.out hb B2.out.size)
    have B4 := Lib.hid (B3.out.alloc B3.out.size (.cells #[.int .u8 (y0.r : Int), .int .u64 (y0.up : Int), .bool y0.on] 66))
    have X4 := Lib.hid ((X2.out.ab hb).ab ((Below.refl _ _).alloc (Nat.le_refl _) (.cells #[.int .u8 (y0.r : Int), .int .u64 (y0.up : Int), .bool y0.on] 66)))
    have x40 := X4.out.cell (k := 0) rfl
    clear hb H2 X2
    have B5 := B4
    clear X4 x40
    go_wp2_with fail
    go_loopw [11, 12] (fun lv z wr => ∃ i : Nat, i ≤ n ∧ z = .int .i64 (i : Int) ∧ U64.NsB wr w.heap.size lv (gonL A vv i) ∧ Below w.heap.size w wr) (fun _ z _ => n - (intOf z).toNat)
    case atStart => exact ⟨0, Nat.zero_le _, rfl, U64.NsB.nil _ _, B5.out⟩
    case round =>
      obtain ⟨i, hi, rfl, hns, hb⟩ := hrel
      have N1 := Lib.hid hns
      have B1 := Lib.hid hb
      have C1 := Lib.hid (HC.out.ab hb)
      have hg : wr.cell? ⟨g, 0, none⟩ = some (.slice C n cap) := by
        have := C1.out.box.cell (k := 0) rfl
        rw [hv] at this
        exact this
      clear hns hb
      by_cases hlt : i < n
      · obtain ⟨i1, hi1⟩ : ∃ i1 : Nat, i1 = i + 1 := ⟨_, rfl⟩
        have hw1 : IntKind.u64.wrap ((i : Int) + 1) = (i1 : Int) := by rw [hi1]; exact wide_u64 (i + 1) (by have := HM.out; omega)
        have hlti : (i : Int) < (n : Int) := by omega
        have HLT := Lib.hid hlt
        have HBL := Lib.hid fun W (hW : Below w.heap.size w W) => rbelow_any (h := vv) (k := i1) (HC.out.ab hW) HA.out (by rw [HN.out]; exact HM.out)
        have GS : Hid (gonL A vv (i + 1) = gonL A vv i ++ (bif klH A vv i1 then [i1] else [])) := Lib.hid (by rw [hi1]; exact gonL_succ A vv i)
        have LN : Hid ((gonL A vv i).length ≤ 100000) := Lib.hid (by have := gonL_len A vv i; have := HM.out; omega)
        cases hkl : klH A vv i1
        · have d1 : ((i1 : Int) == (vv : Int)) = false := by
            unfold klH at hkl
            rw [Bool.or_eq_false_iff, decide_eq_false_iff_not] at hkl
            simp
            omega
          have d2 : belowH A vv i1 = false := by
            unfold klH at hkl
            rw [Bool.or_eq_false_iff] at hkl
            exact hkl.2
          have HB2 := Lib.hid (HBL.out wr B1.out)
          rw [d2] at HB2
          rw [hkl] at GS
          clear hkl hlt hi hi1 HBL d2
          go_wp2_with fail
          refine HB2.out.mono ?_
          rintro e w6 ⟨rfl, hb⟩
          have B6 := Lib.hid (below_tr B1.out hb B1.out.size)
          have N6 := Lib.hid (N1.out.ab hb)
          clear hb HB2
          go_wp2_with fail
          go_roundw
          case rel => exact ⟨i + 1, HLT.out, by go_num, by rw [GS.out]; simpa using N6.out, B6.out⟩
          case measure => simp [intOf]; have := HLT.out; omega
        · rw [hkl] at GS
          by_cases hiv : i1 = vv
          · have d1 : ((i1 : Int) == (vv : Int)) = true := by simp [hiv]
            have ha : Below wr.heap.size wr (wr.alloc (.cells #[.int .u64 (i1 : Int)] 24)) := (Below.refl _ _).alloc (Nat.le_refl _) _
            have NA := Lib.hid (N1.out.ab ha)
            have BA := Lib.hid (below_tr B1.out ha B1.out.size)
            have GC : Hid (CbB (wr.alloc (.cells #[.int .u64 (i1 : Int)] 24)) wr.heap.size 24 #[.int .u64 (i1 : Int)]) := Lib.hid (CbB.new _ _ _)
            clear hkl hlt hi hi1 HBL hiv ha
            go_wp2_with (first
              | (refine U64.wpList_appN rfl (.tmp 72) (.tmp 74) rfl (B := w.heap.size) NA.out rfl i1 rfl GC.out LN.out BA.out.size ?_
                 intro v5 w5 h5 g5
                 have N5 := Lib.hid h5
                 have B5 := Lib.hid (U64.below_grownO BA.out g5 (own_ge9 NA.out) BA.out.size)
                 clear h5 g5))
            go_roundw
            case rel => exact ⟨i + 1, HLT.out, by go_num, by rw [GS.out]; simpa using N5.out, B5.out⟩
            case measure => simp [intOf]; have := HLT.out; omega
          · have d1 : ((i1 : Int) == (vv : Int)) = false := by simp; omega
            have d2 : belowH A vv i1 = true := by unfold klH at hkl; simpa [hiv] using hkl
            have HB2 := Lib.hid (HBL.out wr B1.out)
            rw [d2] at HB2
            clear hkl hlt hi hi1 HBL hiv d2
            go_wp2_with fail
            refine HB2.out.mono ?_
            rintro e w6 ⟨rfl, hb⟩
            have B6 := Lib.hid (below_tr B1.out hb B1.out.size)
            have N6 := Lib.hid (N1.out.ab hb)
            have ha : Below w6.heap.size w6 (w6.alloc (.cells #[.int .u64 (i1 : Int)] 24)) := (Below.refl _ _).alloc (Nat.le_refl _) _
            have NA := Lib.hid (N6.out.ab ha)
            have BA := Lib.hid (below_tr B6.out ha B6.out.size)
            have GC : Hid (CbB (w6.alloc (.cells #[.int .u64 (i1 : Int)] 24)) w6.heap.size 24 #[.int .u64 (i1 : Int)]) := Lib.hid (CbB.new _ _ _)
            clear hb HB2 ha
            go_wp2_with (first
              | (refine U64.wpList_appN rfl (.tmp 72) (.tmp 74) rfl (B := w.heap.size) NA.out rfl i1 rfl GC.out LN.out BA.out.size ?_
                 intro v5 w5 h5 g5
                 have N5 := Lib.hid h5
                 have B5 := Lib.hid (U64.below_grownO BA.out g5 (own_ge9 NA.out) BA.out.size)
                 clear h5 g5))
            go_roundw
            case rel => exact ⟨i + 1, HLT.out, by go_num, by rw [GS.out]; simpa using N5.out, B5.out⟩
            case measure => simp [intOf]; have := HLT.out; omega
      · obtain rfl : i = n := by omega
        obtain ⟨G, hG⟩ : ∃ G, gonL A vv i = G := ⟨_, rfl⟩
        have OFF : Hid (offL A G = killH A vv) := Lib.hid (by rw [← hG]; exact offL_kill fun j hj => by rw [gonL_mem, HN.out] at *; constructor; exact fun h => h.2; exact fun h => ⟨hj, h⟩)
        have GB : Hid (∀ x ∈ G, ∃ j, x = j + 1 ∧ j < A.length) := Lib.hid fun x hx => by
          rw [← hG] at hx
          exact gonL_in (by rw [HN.out]; exact hx)
        rw [hG] at N1
        obtain ⟨gA, gc, hlv, hgc⟩ := N1.out.form
        have F1 : Hid (Fr w wr (fun k => k = g ∨ v.ownBlock = some k)) := Lib.hid (Fr.of B1.out _)
        subst hlv
        have GL : Hid (G.length ≤ 1000) := Lib.hid (by rw [← hG]; have := gonL_len A vv i; have := HM.out; omega)
        have hglb : (G.length : Int) ≤ 1000 := by have := GL.out; omega
        clear hlt hi hG hgc
        go_wp2_with fail
        clear hg
        have C2 := Lib.hid C1.out
        clear C1 B1
        generalize wr = wo at *
        go_loopw [14] (fun z wr => ∃ j : Nat, j ≤ G.length ∧ z = .int .i64 (j : Int) ∧ RcB wr B g v (offL A (G.take j)) ∧ U64.NsB wr w.heap.size (.slice gA G.length gc) G ∧ Fr w wr (fun k => k = g ∨ v.ownBlock = some k)) (fun z _ => G.length - (intOf z).toNat)
        case atStart => exact ⟨0, Nat.zero_le _, rfl, by rw [List.take_zero, offL_nil]; exact C2.out, N1.out, F1.out⟩
        case round =>
          obtain ⟨j, hj, rfl, hr, hn, hf⟩ := hrel
          have R1 := Lib.hid hr
          have N2 := Lib.hid hn
          have F2 := Lib.hid hf
          clear hr hn hf
          by_cases hjl : j < G.length
          · obtain ⟨q, hq, hql⟩ := GB.out (G[j]) (List.getElem_mem hjl)
            obtain ⟨x, hx⟩ : ∃ x, A[q]? = some x := ⟨_, List.getElem?_eq_getElem hql⟩
            have hx' : (offL A (G.take j))[q]? = some ⟨x.r, x.up, x.on && !decide (q + 1 ∈ G.take j)⟩ := by rw [offL_at, hx]; rfl
            obtain ⟨gb, cap', hv', x0', x1, x2, hfz⟩ := R1.out.form hx'
            rw [hv, offL_len, HN.out] at hv'
            injection hv' with hv1 _ hv2
            subst hv1 hv2
            have hf2 := hfz (q * 3 + 2)
            obtain ⟨ga, gc', hsl, hcells⟩ := N2.out.form
            obtain ⟨gg, hga, hgcell⟩ := hcells j hjl
            injection hsl with hs1 _ hs2
            subst hga
            subst hs1 hs2
            rw [hq] at hgcell
            have hcast : ((q + 1 : Nat) : Int) = (q : Int) + 1 := by omega
            rw [hcast] at hgcell
            have hg : wr.cell? ⟨g, 0, none⟩ = some (.slice (some ⟨gb, 0, none⟩) i cap) := by
              have := R1.out.box.cell (k := 0) rfl
              rw [hv] at this
              exact this
            have d3 : IntKind.u64.wrap ((q : Int) + 1 - 1) = (q : Int) := by rw [show (q : Int) + 1 - 1 = (q : Int) by omega]; exact wide_u64 q (by have := HM.out; have := HN.out; omega)
            have d4 : (q : Int) < (i : Int) := by have := HN.out; omega
            have hjli : (j : Int) < (G.length : Int) := by omega
            have HJ := Lib.hid hjl
            have R2 : Hid (RcB (wr.setCell ⟨gb, q * 3 + 2, none⟩ (.bool false)) B g v (offL A (G.take (j + 1)))) := Lib.hid (by
              have h1 := R1.out
              have hv3 : v = .slice (some ⟨gb, 0, none⟩) (offL A (G.take j)).length cap := by rw [offL_len, HN.out]; exact hv
              rw [hv3] at h1 ⊢
              have h2 := h1.off hx'
              rw [List.take_add_one, List.getElem?_eq_getElem hjl, Option.toList_some, hq, ← offL_snoc hx]
              exact h2)
            have FW : Hid (Fr wr (wr.setCell ⟨gb, q * 3 + 2, none⟩ (.bool false)) (fun k => v.ownBlock = some k)) := Lib.hid ((Fr.grown (grown_cell wr gb (q * 3 + 2) (.bool false))).imp fun k hk => by rw [hv]; exact hk)
            have F3 : Hid (Fr w (wr.setCell ⟨gb, q * 3 + 2, none⟩ (.bool false)) (fun k => k = g ∨ v.ownBlock = some k)) := Lib.hid (F2.out.tr (FW.out.imp fun k hk => .inr hk))
            have N3 : Hid (U64.NsB (wr.setCell ⟨gb, q * 3 + 2, none⟩ (.bool false)) w.heap.size (.slice (some ⟨gg, 0, none⟩) G.length gc) G) := Lib.hid (row_fr N2.out FW.out (fun k hk e => (ns_row_ne R1.out N2.out).1 k hk e))
            clear hx hx' hjl hj x0' x1 hfz R1 F2 FW N2 hcells hq hql hcast
            go_wp2_with fail
            go_region
            go_wp2_with fail
            go_roundw
            case rel => exact ⟨j + 1, HJ.out, by go_num, R2.out.ab ⟨rfl, rfl, rfl, Nat.le_refl _, fun i hi => rfl⟩, N3.out, ⟨F3.out.os, F3.out.tape, F3.out.output, F3.out.size, F3.out.block⟩⟩
            case measure => simp [intOf]; have := HJ.out; omega
          · obtain rfl : j = G.length := by omega
            have h1 := R1.out
            rw [List.take_length, OFF.out] at h1
            have R2 := Lib.hid h1
            clear h1 hjl hj R1
            go_wp2_with fail
            go_ret
            exact ⟨rfl, v, R2.out, F2.out⟩
  · have d0 : ((h : Int) != (vv : Int)) = true := by simp; omega
    have hn2 : noGive x0.r = false ∧ belowH A h vv = true := by simpa [hhv] using hn
    rw [hn2.1] at d1
    rw [hn2.2] at HB
    clear hc hA hm ha hb hn hhv hn2 hnl
    go_enter Try.func28, Try.ntmps28
    go_wp2_with fail
    refine H1.out.mono ?_
    rintro e w1 ⟨rfl, hb⟩
    have B2 := Lib.hid (hb.alloc hb.size (.cells #[.int .u8 (x0.r : Int), .int .u64 (x0.up : Int), .bool x0.on] 66))
    have X2 := Lib.hid (CbB.new w1 66 #[.int .u8 (x0.r : Int), .int .u64 (x0.up : Int), .bool x0.on])
    clear hb H1
    go_wp2_with fail
    refine (H2.out _ B2.out).mono ?_
    rintro e w3 ⟨rfl, hb⟩
    have B3 := Lib.hid (below_tr B2.out hb B2.out.size)
    have B4 := Lib.hid (B3.out.alloc B3.out.size (.cells #[.int .u8 (y0.r : Int), .int .u64 (y0.up : Int), .bool y0.on] 66))
    have X4 := Lib.hid ((X2.out.ab hb).ab ((Below.refl _ _).alloc (Nat.le_refl _) (.cells #[.int .u8 (y0.r : Int), .int .u64 (y0.up : Int), .bool y0.on] 66)))
    have x40 := X4.out.cell (k := 0) rfl
    clear hb H2 X2
    go_wp2_with fail
    refine (HB.out _ B4.out).mono ?_
    rintro e w5 ⟨rfl, hb⟩
    have B5 := Lib.hid (below_tr B4.out hb B4.out.size)
    clear hb HB X4 x40
    go_wp2_with fail
    go_loopw [11, 12] (fun lv z wr => ∃ i : Nat, i ≤ n ∧ z = .int .i64 (i : Int) ∧ U64.NsB wr w.heap.size lv (gonL A vv i) ∧ Below w.heap.size w wr) (fun _ z _ => n - (intOf z).toNat)
    case atStart => exact ⟨0, Nat.zero_le _, rfl, U64.NsB.nil _ _, B5.out⟩
    case round =>
      obtain ⟨i, hi, rfl, hns, hb⟩ := hrel
      have N1 := Lib.hid hns
      have B1 := Lib.hid hb
      have C1 := Lib.hid (HC.out.ab hb)
      have hg : wr.cell? ⟨g, 0, none⟩ = some (.slice C n cap) := by
        have := C1.out.box.cell (k := 0) rfl
        rw [hv] at this
        exact this
      clear hns hb
      by_cases hlt : i < n
      · obtain ⟨i1, hi1⟩ : ∃ i1 : Nat, i1 = i + 1 := ⟨_, rfl⟩
        have hw1 : IntKind.u64.wrap ((i : Int) + 1) = (i1 : Int) := by rw [hi1]; exact wide_u64 (i + 1) (by have := HM.out; omega)
        have hlti : (i : Int) < (n : Int) := by omega
        have HLT := Lib.hid hlt
        have HBL := Lib.hid fun W (hW : Below w.heap.size w W) => rbelow_any (h := vv) (k := i1) (HC.out.ab hW) HA.out (by rw [HN.out]; exact HM.out)
        have GS : Hid (gonL A vv (i + 1) = gonL A vv i ++ (bif klH A vv i1 then [i1] else [])) := Lib.hid (by rw [hi1]; exact gonL_succ A vv i)
        have LN : Hid ((gonL A vv i).length ≤ 100000) := Lib.hid (by have := gonL_len A vv i; have := HM.out; omega)
        cases hkl : klH A vv i1
        · have d1 : ((i1 : Int) == (vv : Int)) = false := by
            unfold klH at hkl
            rw [Bool.or_eq_false_iff, decide_eq_false_iff_not] at hkl
            simp
            omega
          have d2 : belowH A vv i1 = false := by
            unfold klH at hkl
            rw [Bool.or_eq_false_iff] at hkl
            exact hkl.2
          have HB2 := Lib.hid (HBL.out wr B1.out)
          rw [d2] at HB2
          rw [hkl] at GS
          clear hkl hlt hi hi1 HBL d2
          go_wp2_with fail
          refine HB2.out.mono ?_
          rintro e w6 ⟨rfl, hb⟩
          have B6 := Lib.hid (below_tr B1.out hb B1.out.size)
          have N6 := Lib.hid (N1.out.ab hb)
          clear hb HB2
          go_wp2_with fail
          go_roundw
          case rel => exact ⟨i + 1, HLT.out, by go_num, by rw [GS.out]; simpa using N6.out, B6.out⟩
          case measure => simp [intOf]; have := HLT.out; omega
        · rw [hkl] at GS
          by_cases hiv : i1 = vv
          · have d1 : ((i1 : Int) == (vv : Int)) = true := by simp [hiv]
            have ha : Below wr.heap.size wr (wr.alloc (.cells #[.int .u64 (i1 : Int)] 24)) := (Below.refl _ _).alloc (Nat.le_refl _) _
            have NA := Lib.hid (N1.out.ab ha)
            have BA := Lib.hid (below_tr B1.out ha B1.out.size)
            have GC : Hid (CbB (wr.alloc (.cells #[.int .u64 (i1 : Int)] 24)) wr.heap.size 24 #[.int .u64 (i1 : Int)]) := Lib.hid (CbB.new _ _ _)
            clear hkl hlt hi hi1 HBL hiv ha
            go_wp2_with (first
              | (refine U64.wpList_appN rfl (.tmp 72) (.tmp 74) rfl (B := w.heap.size) NA.out rfl i1 rfl GC.out LN.out BA.out.size ?_
                 intro v5 w5 h5 g5
                 have N5 := Lib.hid h5
                 have B5 := Lib.hid (U64.below_grownO BA.out g5 (own_ge9 NA.out) BA.out.size)
                 clear h5 g5))
            go_roundw
            case rel => exact ⟨i + 1, HLT.out, by go_num, by rw [GS.out]; simpa using N5.out, B5.out⟩
            case measure => simp [intOf]; have := HLT.out; omega
          · have d1 : ((i1 : Int) == (vv : Int)) = false := by simp; omega
            have d2 : belowH A vv i1 = true := by unfold klH at hkl; simpa [hiv] using hkl
            have HB2 := Lib.hid (HBL.out wr B1.out)
            rw [d2] at HB2
            clear hkl hlt hi hi1 HBL hiv d2
            go_wp2_with fail
            refine HB2.out.mono ?_
            rintro e w6 ⟨rfl, hb⟩
            have B6 := Lib.hid (below_tr B1.out hb B1.out.size)
            have N6 := Lib.hid (N1.out.ab hb)
            have ha : Below w6.heap.size w6 (w6.alloc (.cells #[.int .u64 (i1 : Int)] 24)) := (Below.refl _ _).alloc (Nat.le_refl _) _
            have NA := Lib.hid (N6.out.ab ha)
            have BA := Lib.hid (below_tr B6.out ha B6.out.size)
            have GC : Hid (CbB (w6.alloc (.cells #[.int .u64 (i1 : Int)] 24)) w6.heap.size 24 #[.int .u64 (i1 : Int)]) := Lib.hid (CbB.new _ _ _)
            clear hb HB2 ha
            go_wp2_with (first
              | (refine U64.wpList_appN rfl (.tmp 72) (.tmp 74) rfl (B := w.heap.size) NA.out rfl i1 rfl GC.out LN.out BA.out.size ?_
                 intro v5 w5 h5 g5
                 have N5 := Lib.hid h5
                 have B5 := Lib.hid (U64.below_grownO BA.out g5 (own_ge9 NA.out) BA.out.size)
                 clear h5 g5))
            go_roundw
            case rel => exact ⟨i + 1, HLT.out, by go_num, by rw [GS.out]; simpa using N5.out, B5.out⟩
            case measure => simp [intOf]; have := HLT.out; omega
      · obtain rfl : i = n := by omega
        obtain ⟨G, hG⟩ : ∃ G, gonL A vv i = G := ⟨_, rfl⟩
        have OFF : Hid (offL A G = killH A vv) := Lib.hid (by rw [← hG]; exact offL_kill fun j hj => by rw [gonL_mem, HN.out] at *; constructor; exact fun h => h.2; exact fun h => ⟨hj, h⟩)
        have GB : Hid (∀ x ∈ G, ∃ j, x = j + 1 ∧ j < A.length) := Lib.hid fun x hx => by
          rw [← hG] at hx
          exact gonL_in (by rw [HN.out]; exact hx)
        rw [hG] at N1
        obtain ⟨gA, gc, hlv, hgc⟩ := N1.out.form
        have F1 : Hid (Fr w wr (fun k => k = g ∨ v.ownBlock = some k)) := Lib.hid (Fr.of B1.out _)
        subst hlv
        have GL : Hid (G.length ≤ 1000) := Lib.hid (by rw [← hG]; have := gonL_len A vv i; have := HM.out; omega)
        have hglb : (G.length : Int) ≤ 1000 := by have := GL.out; omega
        clear hlt hi hG hgc
        go_wp2_with fail
        clear hg
        have C2 := Lib.hid C1.out
        clear C1 B1
        generalize wr = wo at *
        go_loopw [14] (fun z wr => ∃ j : Nat, j ≤ G.length ∧ z = .int .i64 (j : Int) ∧ RcB wr B g v (offL A (G.take j)) ∧ U64.NsB wr w.heap.size (.slice gA G.length gc) G ∧ Fr w wr (fun k => k = g ∨ v.ownBlock = some k)) (fun z _ => G.length - (intOf z).toNat)
        case atStart => exact ⟨0, Nat.zero_le _, rfl, by rw [List.take_zero, offL_nil]; exact C2.out, N1.out, F1.out⟩
        case round =>
          obtain ⟨j, hj, rfl, hr, hn, hf⟩ := hrel
          have R1 := Lib.hid hr
          have N2 := Lib.hid hn
          have F2 := Lib.hid hf
          clear hr hn hf
          by_cases hjl : j < G.length
          · obtain ⟨q, hq, hql⟩ := GB.out (G[j]) (List.getElem_mem hjl)
            obtain ⟨x, hx⟩ : ∃ x, A[q]? = some x := ⟨_, List.getElem?_eq_getElem hql⟩
            have hx' : (offL A (G.take j))[q]? = some ⟨x.r, x.up, x.on && !decide (q + 1 ∈ G.take j)⟩ := by rw [offL_at, hx]; rfl
            obtain ⟨gb, cap', hv', x0', x1, x2, hfz⟩ := R1.out.form hx'
            rw [hv, offL_len, HN.out] at hv'
            injection hv' with hv1 _ hv2
            subst hv1 hv2
            have hf2 := hfz (q * 3 + 2)
            obtain ⟨ga, gc', hsl, hcells⟩ := N2.out.form
            obtain ⟨gg, hga, hgcell⟩ := hcells j hjl
            injection hsl with hs1 _ hs2
            subst hga
            subst hs1 hs2
            rw [hq] at hgcell
            have hcast : ((q + 1 : Nat) : Int) = (q : Int) + 1 := by omega
            rw [hcast] at hgcell
            have hg : wr.cell? ⟨g, 0, none⟩ = some (.slice (some ⟨gb, 0, none⟩) i cap) := by
              have := R1.out.box.cell (k := 0) rfl
              rw [hv] at this
              exact this
            have d3 : IntKind.u64.wrap ((q : Int) + 1 - 1) = (q : Int) := by rw [show (q : Int) + 1 - 1 = (q : Int) by omega]; exact wide_u64 q (by have := HM.out; have := HN.out; omega)
            have d4 : (q : Int) < (i : Int) := by have := HN.out; omega
            have hjli : (j : Int) < (G.length : Int) := by omega
            have HJ := Lib.hid hjl
            have R2 : Hid (RcB (wr.setCell ⟨gb, q * 3 + 2, none⟩ (.bool false)) B g v (offL A (G.take (j + 1)))) := Lib.hid (by
              have h1 := R1.out
              have hv3 : v = .slice (some ⟨gb, 0, none⟩) (offL A (G.take j)).length cap := by rw [offL_len, HN.out]; exact hv
              rw [hv3] at h1 ⊢
              have h2 := h1.off hx'
              rw [List.take_add_one, List.getElem?_eq_getElem hjl, Option.toList_some, hq, ← offL_snoc hx]
              exact h2)
            have FW : Hid (Fr wr (wr.setCell ⟨gb, q * 3 + 2, none⟩ (.bool false)) (fun k => v.ownBlock = some k)) := Lib.hid ((Fr.grown (grown_cell wr gb (q * 3 + 2) (.bool false))).imp fun k hk => by rw [hv]; exact hk)
            have F3 : Hid (Fr w (wr.setCell ⟨gb, q * 3 + 2, none⟩ (.bool false)) (fun k => k = g ∨ v.ownBlock = some k)) := Lib.hid (F2.out.tr (FW.out.imp fun k hk => .inr hk))
            have N3 : Hid (U64.NsB (wr.setCell ⟨gb, q * 3 + 2, none⟩ (.bool false)) w.heap.size (.slice (some ⟨gg, 0, none⟩) G.length gc) G) := Lib.hid (row_fr N2.out FW.out (fun k hk e => (ns_row_ne R1.out N2.out).1 k hk e))
            clear hx hx' hjl hj x0' x1 hfz R1 F2 FW N2 hcells hq hql hcast
            go_wp2_with fail
            go_region
            go_wp2_with fail
            go_roundw
            case rel => exact ⟨j + 1, HJ.out, by go_num, R2.out.ab ⟨rfl, rfl, rfl, Nat.le_refl _, fun i hi => rfl⟩, N3.out, ⟨F3.out.os, F3.out.tape, F3.out.output, F3.out.size, F3.out.block⟩⟩
            case measure => simp [intOf]; have := HJ.out; omega
          · obtain rfl : j = G.length := by omega
            have h1 := R1.out
            rw [List.take_length, OFF.out] at h1
            have R2 := Lib.hid h1
            clear h1 hjl hj R1
            go_wp2_with fail
            go_ret
            exact ⟨rfl, v, R2.out, F2.out⟩
theorem rrevoke_any {B g h vv : Nat} {v : Value} {A : HL} {w : World} (hc : RcB w B g v A) (hA : RightA A) (hm : A.length < 900) : Calls Try.prog 28 #[.pointer (some ⟨g, 0, none⟩), .int .u64 (h : Int), .int .u64 (vv : Int)] w (RcR B g v w (.int .i64 ((revokeH A h vv).1 : Int)) (revokeH A h vv).2) := by
  unfold revokeH
  cases ha : atH A h with
  | none => exact (rrevoke_none hc hm (fun ⟨h1, _⟩ => by unfold atP at h1; rw [ha] at h1; cases h1)).mono fun e w' ⟨he, hb⟩ => RcR.below hc he hb
  | some x =>
    simp only
    cases hb : atH A vv with
    | none => exact (rrevoke_none hc hm (fun ⟨_, h1⟩ => by unfold atP at h1; rw [hb] at h1; cases h1)).mono fun e w' ⟨he, hb⟩ => RcR.below hc he hb
    | some y =>
      simp only
      cases hn : mayRv A x h vv
      · exact (rrevoke_no hc hA hm ha hb hn).mono fun e w' ⟨he, hb⟩ => RcR.below hc he hb
      · exact rrevoke_yes hc hA hm ha hb hn
end Go.Proofs.Ytdkdkjglbnlmcaa
