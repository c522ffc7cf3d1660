/-
  THE REFERENCE's LISTS OF WHAT WAS SEALED: Knows: the walk.
-/
import Derived.Test.YtmeakfocppooiaaLgD
namespace Go.Proofs.Ytmeakfocppooiaa
open Go.RowKit
set_option linter.unusedVariables false

/-- one, with its three values -/
structure Rs where
  s : Sl
  kv : Value
  pv : Value
  bv : Value
def rsv (p : Rs) : Array Value := #[p.kv, .int .u32 (p.s.l.ten : Int), .int .u8 (p.s.l.k : Int), .int .u8 (p.s.l.lv : Int), .int .u32 (p.s.l.pg : Int), .int .u64 (p.s.l.cm : Int), .int .u16 (p.s.l.gn : Int), p.pv, p.bv]
def rsvs : List Rs → List Value
  | [] => []
  | p :: r => (rsv p).toList ++ rsvs r
theorem rsvs_at : ∀ (all : List Rs) (i : Nat) (s : Rs), all[i]? = some s → ∀ (j : Nat) (v : Value), (rsv s)[j]? = some v → (rsvs all)[i * 9 + j]? = some v
  | [], i, s, h => by simp at h
  | t :: r, 0, s, h => fun j v hv => by
    simp only [List.getElem?_cons_zero, Option.some.injEq] at h
    subst h
    have hj : j < 9 := (Array.getElem?_eq_some_iff.1 hv).1
    rw [rsvs, List.getElem?_append_left (by simp [rsv]; omega)]
    simpa using hv
  | t :: r, i + 1, s, h => fun j v hv => by
    have := rsvs_at r i s (by simpa using h) j v hv
    rw [rsvs, List.getElem?_append_right (by simp [rsv]; omega)]
    rw [show (i + 1) * 9 + j - (rsv t).toList.length = i * 9 + j by simp [rsv]; omega]
    exact this
theorem rsvs_snoc (all : List Rs) (p : Rs) : rsvs (all ++ [p]) = rsvs all ++ (rsv p).toList := by
  induction all with
  | nil => simp [rsvs]
  | cons t r ih => rw [List.cons_append, rsvs, ih]; simp [rsvs, List.append_assoc]
structure RlB (w : World) (B : Nat) (v : Value) (all : List Rs) : Prop where
  own : w.ownsRow B 44 9 v all.length (rsvs all)
  vals : ∀ p ∈ all, OwB w B p.kv p.s.key ∧ OwB w B p.pv p.s.pay ∧ OwB w B p.bv p.s.blk
theorem RlB.ab {w w' : World} {B : Nat} {v : Value} {all : List Rs} (h : RlB w B v all) (hb : Below w.heap.size w w') : RlB w' B v all :=
  ⟨h.own.kept (row := none) (grown_of hb none) (by cases hv : v.ownBlock <;> simp), fun p hp => ⟨(h.vals p hp).1.ab hb, (h.vals p hp).2.1.ab hb, (h.vals p hp).2.2.ab hb⟩⟩
theorem RlB.form {w : World} {B : Nat} {v : Value} {all : List Rs} (h : RlB w B v all) {i : Nat} {p : Rs} (hp : all[i]? = some p) : ∃ gb cap, v = .slice (some ⟨gb, 0, none⟩) all.length cap ∧ gb < w.heap.size ∧ ∀ (j : Nat) (u : Value), (rsv p)[j]? = some u → w.cell? ⟨gb, i * 9 + j, none⟩ = some u := by
  have hi' := (List.getElem?_eq_some_iff.1 hp).1
  rcases h.own.2 with ⟨_, h0⟩ | ⟨gb, cap, cur, rfl, hg, hh, _⟩
  · omega
  · refine ⟨gb, cap, rfl, (Array.getElem?_eq_some_iff.1 hh).1, fun j u hu => ?_⟩
    have := h.own.cells (g := gb) rfl (i * 9 + j) u (rsvs_at all i p hp j u hu)
    rwa [Addr.add_mid, Nat.zero_add] at this
set_option maxRecDepth 100000 in
set_option maxHeartbeats 4000000 in
theorem rKnows_any (B : Nat) (v : Value) (all : List Rs) (m : Lb) (A : Option Addr) (n c : Nat) (b : List Nat) (w : World) (h : RlB w B v all) (hl : all.length ≤ 1000) (hi : IsB w A n c b) :
    Calls Try.prog 23 #[v, .agg (lab m), .slice A n c] w fun e w' => e = .returned (.bool (all.any (fun p => (decide (p.s.l = m) && decide (p.s.blk = b))))) ∧ Below w.heap.size w w' := by
  have ha : Below w.heap.size w (w.alloc (.cells (lab m) 35)) := (Below.refl _ _).alloc (Nat.le_refl _) _
  have C0 : Hid (CbB (w.alloc (.cells (lab m) 35)) w.heap.size 35 (lab m)) := Lib.hid (CbB.new _ _ _)
  have B0 := Lib.hid ha
  have H0 := Lib.hid (h.ab ha)
  have I0 := Lib.hid (hi.ab ha)
  obtain ⟨A0, c0, rfl⟩ := row_shape h.own
  obtain ⟨k, hk⟩ : ∃ k, k = all.length := ⟨_, rfl⟩
  have HN := Lib.hid hk
  have hkb : (k : Int) ≤ 1000 := by omega
  rw [lab_cells] at C0 B0 H0 I0 ⊢
  rw [← hk] at H0 ⊢
  clear h hl hi ha hk
  go_enter Try.func23, Try.ntmps23
  go_wp2_with fail
  generalize (w.alloc (.cells #[.int .u32 (m.ten : Int), .int .u8 (m.k : Int), .int .u8 (m.lv : Int), .int .u32 (m.pg : Int), .int .u64 (m.cm : Int), .int .u16 (m.gn : Int)] 35)) = w1 at *
  go_loopw [7] (fun z wr => ∃ i : Nat, i ≤ k ∧ z = .int .i64 (i : Int) ∧ Below w1.heap.size w1 wr ∧ (all.take i).any (fun p => (decide (p.s.l = m) && decide (p.s.blk = b))) = false) (fun z _ => k - (intOf z).toNat)
  case atStart => exact ⟨0, Nat.zero_le _, rfl, Below.refl _ _, rfl⟩
  case round =>
    obtain ⟨i, hi, rfl, hb, hno⟩ := hrel
    have HB := Lib.hid hb
    have HNO := Lib.hid hno
    clear hb hno
    by_cases hlt : i < k
    · obtain ⟨p, hp⟩ : ∃ p, all[i]? = some p := ⟨_, List.getElem?_eq_getElem (by rw [← HN.out]; exact hlt)⟩
      obtain ⟨gb, cap, he, hgl, hcell⟩ := H0.out.form hp
      injection he with he1 _ he3
      subst he1 he3
      have hlti : (i : Int) < (k : Int) := by omega
      have HLT := Lib.hid hlt
      have HP := Lib.hid hp
      have KP : Hid (∀ j u, (rsv p)[j]? = some u → wr.cell? ⟨gb, i * 9 + j, none⟩ = some u) := Lib.hid fun j u hu => (World.cell?_of_block (HB.out.block _ hgl)).trans (hcell j u hu)
      have GL := Lib.hid (Nat.lt_of_lt_of_le hgl HB.out.size)
      have VB := Lib.hid ((H0.out.vals p (List.mem_of_getElem? hp)).2.2)
      obtain ⟨A8, c8, hv8, _, _⟩ := VB.out.shape
      have C1 := Lib.hid (C0.out.ab HB.out)
      have I1 := Lib.hid (I0.out.ab HB.out)
      have V1 := Lib.hid (VB.out.ab HB.out)
      have hq := fun W => eq_lab p.s.l m W
      have hstep : Hid ((decide (p.s.l = m) && decide (p.s.blk = b)) = false → (all.take (i + 1)).any (fun p => (decide (p.s.l = m) && decide (p.s.blk = b))) = false) := Lib.hid (fun hf => by
        rw [List.take_add_one, HP.out, Option.toList_some, List.any_append, HNO.out]
        simp only [List.any_cons, List.any_nil, hf, Bool.or_false])
      have hany : Hid ((decide (p.s.l = m) && decide (p.s.blk = b)) = true → all.any (fun p => (decide (p.s.l = m) && decide (p.s.blk = b))) = true) := Lib.hid (fun hf => List.any_eq_true.2 ⟨p, List.mem_of_getElem? HP.out, hf⟩)
      clear hcell hgl hlt hp hi VB
      rw [hv8] at V1
      cases hdl : decide (p.s.l = m)
      · rw [hdl] at hq hstep hany
        go_wp2_with fail
        refine wp_wide3 [⟨14, IsR (.slice (some ⟨gb, 0, none⟩) k c0), [], false⟩, ⟨15, IsR (.int .i64 (i : Int)), [], false⟩, ⟨16, IsR (.pointer (some ⟨gb, i * 9, none⟩)), [0, 1], false⟩, ⟨17, IsR (.pointer (some ⟨gb, i * 9 + 1, none⟩)), [2], false⟩, ⟨18, IsR (.agg #[.int .u32 (p.s.l.ten : Int), .int .u8 (p.s.l.k : Int), .int .u8 (p.s.l.lv : Int), .int .u32 (p.s.l.pg : Int), .int .u64 (p.s.l.cm : Int), .int .u16 (p.s.l.gn : Int)]), [3], false⟩, ⟨19, IsR (.agg #[.int .u32 (m.ten : Int), .int .u8 (m.k : Int), .int .u8 (m.lv : Int), .int .u32 (m.pg : Int), .int .u64 (m.cm : Int), .int .u16 (m.gn : Int)]), [], false⟩, ⟨20, IsR (.bool false), [4, 5], false⟩, ⟨21, IsR (.bool false), [6], false⟩, ⟨22, AnyR, [7], false⟩, ⟨23, AnyR, [7], false⟩, ⟨24, AnyR, [7], false⟩, ⟨25, AnyR, [7], false⟩, ⟨26, AnyR, [7], false⟩, ⟨27, AnyR, [7], false⟩, ⟨28, AnyR, [7], false⟩] (by kernel_rfl) (by kernel_rfl) rfl rfl rfl ⟨?_, ?_, ?_, ?_, ?_, ?_, ?_, ?_, ?_, ?_, ?_, ?_, ?_, ?_, ?_, trivial⟩ ?_
        · refine ⟨rfl, IsR.mono _, fun a W hA hb hd => takes_plain rfl (yields_value _ ?_ rfl)⟩
          have h0 : a.tmps[0]?.getD undef = .slice (some ⟨gb, 0, none⟩) k c0 := (eval_get a 0).trans ((hA.eval (by simp)).trans rfl)
          go_simp
        · refine ⟨rfl, IsR.mono _, fun a W hA hb hd => takes_plain rfl (yields_value _ ?_ rfl)⟩
          have h7 : a.tmps[7]?.getD undef = .int .i64 (i : Int) := (eval_get a 7).trans ((hA.eval (by simp)).trans rfl)
          go_simp
        · refine ⟨rfl, IsR.mono _, fun a W hA hb hd => takes_plain rfl (yields_value _ ?_ rfl)⟩
          have h14 : a.tmps[14]?.getD undef = .slice (some ⟨gb, 0, none⟩) k c0 := (eval_get a 14).trans (hd 0 (by simp) _ rfl)
          have h15 : a.tmps[15]?.getD undef = .int .i64 (i : Int) := (eval_get a 15).trans (hd 1 (by simp) _ rfl)
          go_simp
        · refine ⟨rfl, IsR.mono _, fun a W hA hb hd => takes_plain rfl (yields_value _ ?_ rfl)⟩
          have h16 : a.tmps[16]?.getD undef = .pointer (some ⟨gb, i * 9, none⟩) := (eval_get a 16).trans (hd 2 (by simp) _ rfl)
          go_simp
        · refine ⟨rfl, IsR.mono _, fun a W hA hb hd => takes_plain rfl (yields_value _ ?_ rfl)⟩
          have h17 : a.tmps[17]?.getD undef = .pointer (some ⟨gb, i * 9 + 1, none⟩) := (eval_get a 17).trans (hd 3 (by simp) _ rfl)
          have c1 : W.cell? ⟨gb, i * 9 + 1, none⟩ = some (.int .u32 (p.s.l.ten : Int)) := (World.cell?_of_block (hb.block _ GL.out)).trans (KP.out 1 _ rfl)
          have c2 : W.cell? ⟨gb, i * 9 + 2, none⟩ = some (.int .u8 (p.s.l.k : Int)) := (World.cell?_of_block (hb.block _ GL.out)).trans (KP.out 2 _ rfl)
          have c3 : W.cell? ⟨gb, i * 9 + 3, none⟩ = some (.int .u8 (p.s.l.lv : Int)) := (World.cell?_of_block (hb.block _ GL.out)).trans (KP.out 3 _ rfl)
          have c4 : W.cell? ⟨gb, i * 9 + 4, none⟩ = some (.int .u32 (p.s.l.pg : Int)) := (World.cell?_of_block (hb.block _ GL.out)).trans (KP.out 4 _ rfl)
          have c5 : W.cell? ⟨gb, i * 9 + 5, none⟩ = some (.int .u64 (p.s.l.cm : Int)) := (World.cell?_of_block (hb.block _ GL.out)).trans (KP.out 5 _ rfl)
          have c6 : W.cell? ⟨gb, i * 9 + 6, none⟩ = some (.int .u16 (p.s.l.gn : Int)) := (World.cell?_of_block (hb.block _ GL.out)).trans (KP.out 6 _ rfl)
          go_simp
        · refine ⟨rfl, IsR.mono _, fun a W hA hb hd => takes_plain rfl (yields_value _ ?_ rfl)⟩
          have h4 : a.tmps[4]?.getD undef = .pointer (some ⟨w.heap.size, 0, none⟩) := (eval_get a 4).trans ((hA.eval (by simp)).trans rfl)
          have hl := C1.out.ab hb
          have l0 := hl.cell (k := 0) rfl
          have l1 := hl.cell (k := 1) rfl
          have l2 := hl.cell (k := 2) rfl
          have l3 := hl.cell (k := 3) rfl
          have l4 := hl.cell (k := 4) rfl
          have l5 := hl.cell (k := 5) rfl
          go_simp
        · refine ⟨rfl, IsR.mono _, fun a W hA hb hd => takes_plain rfl (yields_value _ ?_ rfl)⟩
          have h18 : a.tmps[18]?.getD undef = .agg #[.int .u32 (p.s.l.ten : Int), .int .u8 (p.s.l.k : Int), .int .u8 (p.s.l.lv : Int), .int .u32 (p.s.l.pg : Int), .int .u64 (p.s.l.cm : Int), .int .u16 (p.s.l.gn : Int)] := (eval_get a 18).trans (hd 4 (by simp) _ rfl)
          have h19 : a.tmps[19]?.getD undef = .agg #[.int .u32 (m.ten : Int), .int .u8 (m.k : Int), .int .u8 (m.lv : Int), .int .u32 (m.pg : Int), .int .u64 (m.cm : Int), .int .u16 (m.gn : Int)] := (eval_get a 19).trans (hd 5 (by simp) _ rfl)
          have hq2 := hq W
          go_simp
        · refine ⟨rfl, IsR.mono _, fun a W hA hb hd => takes_plain rfl (yields_value _ ?_ rfl)⟩
          have h20 : a.tmps[20]?.getD undef = .bool false := (eval_get a 20).trans (hd 6 (by simp) _ rfl)
          go_simp
        · refine ⟨rfl, AnyR.mono, fun a W hA hb hd => ?_⟩
          exact takes_off (i := 7) (d := 21) (b := true) rfl rfl rfl (hd 7 (by simp) _ rfl) trivial
        · refine ⟨rfl, AnyR.mono, fun a W hA hb hd => ?_⟩
          exact takes_off (i := 7) (d := 21) (b := true) rfl rfl rfl (hd 7 (by simp) _ rfl) trivial
        · refine ⟨rfl, AnyR.mono, fun a W hA hb hd => ?_⟩
          exact takes_off (i := 7) (d := 21) (b := true) rfl rfl rfl (hd 7 (by simp) _ rfl) trivial
        · refine ⟨rfl, AnyR.mono, fun a W hA hb hd => ?_⟩
          exact takes_off (i := 7) (d := 21) (b := true) rfl rfl rfl (hd 7 (by simp) _ rfl) trivial
        · refine ⟨rfl, AnyR.mono, fun a W hA hb hd => ?_⟩
          exact takes_off (i := 7) (d := 21) (b := true) rfl rfl rfl (hd 7 (by simp) _ rfl) trivial
        · refine ⟨rfl, AnyR.mono, fun a W hA hb hd => ?_⟩
          exact takes_off (i := 7) (d := 21) (b := true) rfl rfl rfl (hd 7 (by simp) _ rfl) trivial
        · refine ⟨rfl, AnyR.mono, fun a W hA hb hd => ?_⟩
          exact takes_off (i := 7) (d := 21) (b := true) rfl rfl rfl (hd 7 (by simp) _ rfl) trivial
        intro vs w4 hR hF hb
        have e14 : vs 14 = .slice (some ⟨gb, 0, none⟩) k c0 := hR 0 _ rfl
        have e15 : vs 15 = .int .i64 (i : Int) := hR 1 _ rfl
        have e16 : vs 16 = .pointer (some ⟨gb, i * 9, none⟩) := hR 2 _ rfl
        have e17 : vs 17 = .pointer (some ⟨gb, i * 9 + 1, none⟩) := hR 3 _ rfl
        have e18 : vs 18 = .agg #[.int .u32 (p.s.l.ten : Int), .int .u8 (p.s.l.k : Int), .int .u8 (p.s.l.lv : Int), .int .u32 (p.s.l.pg : Int), .int .u64 (p.s.l.cm : Int), .int .u16 (p.s.l.gn : Int)] := hR 4 _ rfl
        have e19 : vs 19 = .agg #[.int .u32 (m.ten : Int), .int .u8 (m.k : Int), .int .u8 (m.lv : Int), .int .u32 (m.pg : Int), .int .u64 (m.cm : Int), .int .u16 (m.gn : Int)] := hR 5 _ rfl
        have e20 : vs 20 = .bool false := hR 6 _ rfl
        have e21 : vs 21 = .bool false := hR 7 _ rfl
        simp only [List.map_cons, List.map_nil, List.foldl_cons, List.foldl_nil, List.length_cons, List.length_nil, List.drop_succ_cons, List.drop_zero, Act.put, List.setIfInBounds_toArray, List.set_cons_zero, List.set_cons_succ, e14, e15, e16, e17, e18, e19, e20, e21]
        have B4 := Lib.hid (below_tr HB.out hb HB.out.size)
        clear hR hF hb e14 e15 e16 e17 e18 e19 e20 e21
        generalize vs 22 = q22
        generalize vs 23 = q23
        generalize vs 24 = q24
        generalize vs 25 = q25
        generalize vs 26 = q26
        generalize vs 27 = q27
        generalize vs 28 = q28
        have hst := Lib.hid (hstep.out rfl)
        clear hstep hany hdl hv8
        go_wp2_with fail
        go_roundw
        case rel => exact ⟨i + 1, HLT.out, by go_num, B4.out, hst.out⟩
        case measure => simp [intOf]; have := HLT.out; omega
      · rw [hdl] at hq hstep hany
        go_wp2_with fail
        refine wp_wide3 [⟨14, IsR (.slice (some ⟨gb, 0, none⟩) k c0), [], false⟩, ⟨15, IsR (.int .i64 (i : Int)), [], false⟩, ⟨16, IsR (.pointer (some ⟨gb, i * 9, none⟩)), [0, 1], false⟩, ⟨17, IsR (.pointer (some ⟨gb, i * 9 + 1, none⟩)), [2], false⟩, ⟨18, IsR (.agg #[.int .u32 (p.s.l.ten : Int), .int .u8 (p.s.l.k : Int), .int .u8 (p.s.l.lv : Int), .int .u32 (p.s.l.pg : Int), .int .u64 (p.s.l.cm : Int), .int .u16 (p.s.l.gn : Int)]), [3], false⟩, ⟨19, IsR (.agg #[.int .u32 (m.ten : Int), .int .u8 (m.k : Int), .int .u8 (m.lv : Int), .int .u32 (m.pg : Int), .int .u64 (m.cm : Int), .int .u16 (m.gn : Int)]), [], false⟩, ⟨20, IsR (.bool true), [4, 5], false⟩, ⟨21, IsR (.bool true), [6], false⟩, ⟨22, IsR (.slice (some ⟨gb, 0, none⟩) k c0), [7], false⟩, ⟨23, IsR (.int .i64 (i : Int)), [7], false⟩, ⟨24, IsR (.pointer (some ⟨gb, i * 9, none⟩)), [7, 8, 9], false⟩, ⟨25, IsR (.pointer (some ⟨gb, i * 9 + 8, none⟩)), [7, 10], false⟩, ⟨26, IsR (.slice A8 p.s.blk.length c8), [7, 11], false⟩, ⟨27, IsR (.slice A n c), [7], false⟩, ⟨28, IsR (.bool (decide (p.s.blk = b))), [7, 12, 13], false⟩] (by kernel_rfl) (by kernel_rfl) rfl rfl rfl ⟨?_, ?_, ?_, ?_, ?_, ?_, ?_, ?_, ?_, ?_, ?_, ?_, ?_, ?_, ?_, trivial⟩ ?_
        · refine ⟨rfl, IsR.mono _, fun a W hA hb hd => takes_plain rfl (yields_value _ ?_ rfl)⟩
          have h0 : a.tmps[0]?.getD undef = .slice (some ⟨gb, 0, none⟩) k c0 := (eval_get a 0).trans ((hA.eval (by simp)).trans rfl)
          go_simp
        · refine ⟨rfl, IsR.mono _, fun a W hA hb hd => takes_plain rfl (yields_value _ ?_ rfl)⟩
          have h7 : a.tmps[7]?.getD undef = .int .i64 (i : Int) := (eval_get a 7).trans ((hA.eval (by simp)).trans rfl)
          go_simp
        · refine ⟨rfl, IsR.mono _, fun a W hA hb hd => takes_plain rfl (yields_value _ ?_ rfl)⟩
          have h14 : a.tmps[14]?.getD undef = .slice (some ⟨gb, 0, none⟩) k c0 := (eval_get a 14).trans (hd 0 (by simp) _ rfl)
          have h15 : a.tmps[15]?.getD undef = .int .i64 (i : Int) := (eval_get a 15).trans (hd 1 (by simp) _ rfl)
          go_simp
        · refine ⟨rfl, IsR.mono _, fun a W hA hb hd => takes_plain rfl (yields_value _ ?_ rfl)⟩
          have h16 : a.tmps[16]?.getD undef = .pointer (some ⟨gb, i * 9, none⟩) := (eval_get a 16).trans (hd 2 (by simp) _ rfl)
          go_simp
        · refine ⟨rfl, IsR.mono _, fun a W hA hb hd => takes_plain rfl (yields_value _ ?_ rfl)⟩
          have h17 : a.tmps[17]?.getD undef = .pointer (some ⟨gb, i * 9 + 1, none⟩) := (eval_get a 17).trans (hd 3 (by simp) _ rfl)
          have c1 : W.cell? ⟨gb, i * 9 + 1, none⟩ = some (.int .u32 (p.s.l.ten : Int)) := (World.cell?_of_block (hb.block _ GL.out)).trans (KP.out 1 _ rfl)
          have c2 : W.cell? ⟨gb, i * 9 + 2, none⟩ = some (.int .u8 (p.s.l.k : Int)) := (World.cell?_of_block (hb.block _ GL.out)).trans (KP.out 2 _ rfl)
          have c3 : W.cell? ⟨gb, i * 9 + 3, none⟩ = some (.int .u8 (p.s.l.lv : Int)) := (World.cell?_of_block (hb.block _ GL.out)).trans (KP.out 3 _ rfl)
          have c4 : W.cell? ⟨gb, i * 9 + 4, none⟩ = some (.int .u32 (p.s.l.pg : Int)) := (World.cell?_of_block (hb.block _ GL.out)).trans (KP.out 4 _ rfl)
          have c5 : W.cell? ⟨gb, i * 9 + 5, none⟩ = some (.int .u64 (p.s.l.cm : Int)) := (World.cell?_of_block (hb.block _ GL.out)).trans (KP.out 5 _ rfl)
          have c6 : W.cell? ⟨gb, i * 9 + 6, none⟩ = some (.int .u16 (p.s.l.gn : Int)) := (World.cell?_of_block (hb.block _ GL.out)).trans (KP.out 6 _ rfl)
          go_simp
        · refine ⟨rfl, IsR.mono _, fun a W hA hb hd => takes_plain rfl (yields_value _ ?_ rfl)⟩
          have h4 : a.tmps[4]?.getD undef = .pointer (some ⟨w.heap.size, 0, none⟩) := (eval_get a 4).trans ((hA.eval (by simp)).trans rfl)
          have hl := C1.out.ab hb
          have l0 := hl.cell (k := 0) rfl
          have l1 := hl.cell (k := 1) rfl
          have l2 := hl.cell (k := 2) rfl
          have l3 := hl.cell (k := 3) rfl
          have l4 := hl.cell (k := 4) rfl
          have l5 := hl.cell (k := 5) rfl
          go_simp
        · refine ⟨rfl, IsR.mono _, fun a W hA hb hd => takes_plain rfl (yields_value _ ?_ rfl)⟩
          have h18 : a.tmps[18]?.getD undef = .agg #[.int .u32 (p.s.l.ten : Int), .int .u8 (p.s.l.k : Int), .int .u8 (p.s.l.lv : Int), .int .u32 (p.s.l.pg : Int), .int .u64 (p.s.l.cm : Int), .int .u16 (p.s.l.gn : Int)] := (eval_get a 18).trans (hd 4 (by simp) _ rfl)
          have h19 : a.tmps[19]?.getD undef = .agg #[.int .u32 (m.ten : Int), .int .u8 (m.k : Int), .int .u8 (m.lv : Int), .int .u32 (m.pg : Int), .int .u64 (m.cm : Int), .int .u16 (m.gn : Int)] := (eval_get a 19).trans (hd 5 (by simp) _ rfl)
          have hq2 := hq W
          go_simp
        · refine ⟨rfl, IsR.mono _, fun a W hA hb hd => takes_plain rfl (yields_value _ ?_ rfl)⟩
          have h20 : a.tmps[20]?.getD undef = .bool true := (eval_get a 20).trans (hd 6 (by simp) _ rfl)
          go_simp
        · refine ⟨rfl, IsR.mono _, fun a W hA hb hd => takes_on (i := 7) (d := 21) (b := true) rfl rfl rfl (hd 7 (by simp) _ rfl) (yields_value _ ?_ rfl)⟩
          have h0 : a.tmps[0]?.getD undef = .slice (some ⟨gb, 0, none⟩) k c0 := (eval_get a 0).trans ((hA.eval (by simp)).trans rfl)
          go_simp
        · refine ⟨rfl, IsR.mono _, fun a W hA hb hd => takes_on (i := 7) (d := 21) (b := true) rfl rfl rfl (hd 7 (by simp) _ rfl) (yields_value _ ?_ rfl)⟩
          have h7 : a.tmps[7]?.getD undef = .int .i64 (i : Int) := (eval_get a 7).trans ((hA.eval (by simp)).trans rfl)
          go_simp
        · refine ⟨rfl, IsR.mono _, fun a W hA hb hd => takes_on (i := 7) (d := 21) (b := true) rfl rfl rfl (hd 7 (by simp) _ rfl) (yields_value _ ?_ rfl)⟩
          have h22 : a.tmps[22]?.getD undef = .slice (some ⟨gb, 0, none⟩) k c0 := (eval_get a 22).trans (hd 8 (by simp) _ rfl)
          have h23 : a.tmps[23]?.getD undef = .int .i64 (i : Int) := (eval_get a 23).trans (hd 9 (by simp) _ rfl)
          go_simp
        · refine ⟨rfl, IsR.mono _, fun a W hA hb hd => takes_on (i := 7) (d := 21) (b := true) rfl rfl rfl (hd 7 (by simp) _ rfl) (yields_value _ ?_ rfl)⟩
          have h24 : a.tmps[24]?.getD undef = .pointer (some ⟨gb, i * 9, none⟩) := (eval_get a 24).trans (hd 10 (by simp) _ rfl)
          go_simp
        · refine ⟨rfl, IsR.mono _, fun a W hA hb hd => takes_on (i := 7) (d := 21) (b := true) rfl rfl rfl (hd 7 (by simp) _ rfl) (yields_value _ ?_ rfl)⟩
          have h25 : a.tmps[25]?.getD undef = .pointer (some ⟨gb, i * 9 + 8, none⟩) := (eval_get a 25).trans (hd 11 (by simp) _ rfl)
          have hc : W.cell? ⟨gb, i * 9 + 8, none⟩ = some (.slice A8 p.s.blk.length c8) := ((World.cell?_of_block (hb.block _ GL.out)).trans (KP.out 8 p.bv rfl)).trans (congrArg some hv8)
          go_simp
        · refine ⟨rfl, IsR.mono _, fun a W hA hb hd => takes_on (i := 7) (d := 21) (b := true) rfl rfl rfl (hd 7 (by simp) _ rfl) (yields_value _ ?_ rfl)⟩
          have h2 : a.tmps[2]?.getD undef = .slice A n c := (eval_get a 2).trans ((hA.eval (by simp)).trans rfl)
          go_simp
        · refine ⟨rfl, IsR.mono _, fun a W hA hb hd => takes_on (i := 7) (d := 21) (b := true) rfl rfl rfl (hd 7 (by simp) _ rfl) ?_⟩
          have h26 : a.tmps[26]?.getD undef = .slice A8 p.s.blk.length c8 := (eval_get a 26).trans (hd 12 (by simp) _ rfl)
          have h27 : a.tmps[27]?.getD undef = .slice A n c := (eval_get a 27).trans (hd 13 (by simp) _ rfl)
          refine yields_call 18 #[.slice A8 p.s.blk.length c8, .slice A n c] (by go_simp) ((same_any A8 A p.s.blk.length n c8 c p.s.blk b W ((V1.out.isB rfl).ab hb) (I1.out.ab hb)).mono ?_)
          rintro e W1 ⟨rfl, rfl⟩
          exact ⟨_, rfl, rfl, Below.refl _ _⟩
        intro vs w4 hR hF hb
        have e14 : vs 14 = .slice (some ⟨gb, 0, none⟩) k c0 := hR 0 _ rfl
        have e15 : vs 15 = .int .i64 (i : Int) := hR 1 _ rfl
        have e16 : vs 16 = .pointer (some ⟨gb, i * 9, none⟩) := hR 2 _ rfl
        have e17 : vs 17 = .pointer (some ⟨gb, i * 9 + 1, none⟩) := hR 3 _ rfl
        have e18 : vs 18 = .agg #[.int .u32 (p.s.l.ten : Int), .int .u8 (p.s.l.k : Int), .int .u8 (p.s.l.lv : Int), .int .u32 (p.s.l.pg : Int), .int .u64 (p.s.l.cm : Int), .int .u16 (p.s.l.gn : Int)] := hR 4 _ rfl
        have e19 : vs 19 = .agg #[.int .u32 (m.ten : Int), .int .u8 (m.k : Int), .int .u8 (m.lv : Int), .int .u32 (m.pg : Int), .int .u64 (m.cm : Int), .int .u16 (m.gn : Int)] := hR 5 _ rfl
        have e20 : vs 20 = .bool true := hR 6 _ rfl
        have e21 : vs 21 = .bool true := hR 7 _ rfl
        have e22 : vs 22 = .slice (some ⟨gb, 0, none⟩) k c0 := hR 8 _ rfl
        have e23 : vs 23 = .int .i64 (i : Int) := hR 9 _ rfl
        have e24 : vs 24 = .pointer (some ⟨gb, i * 9, none⟩) := hR 10 _ rfl
        have e25 : vs 25 = .pointer (some ⟨gb, i * 9 + 8, none⟩) := hR 11 _ rfl
        have e26 : vs 26 = .slice A8 p.s.blk.length c8 := hR 12 _ rfl
        have e27 : vs 27 = .slice A n c := hR 13 _ rfl
        have e28 : vs 28 = .bool (decide (p.s.blk = b)) := hR 14 _ rfl
        simp only [List.map_cons, List.map_nil, List.foldl_cons, List.foldl_nil, List.length_cons, List.length_nil, List.drop_succ_cons, List.drop_zero, Act.put, List.setIfInBounds_toArray, List.set_cons_zero, List.set_cons_succ, e14, e15, e16, e17, e18, e19, e20, e21, e22, e23, e24, e25, e26, e27, e28]
        have B4 := Lib.hid (below_tr HB.out hb HB.out.size)
        clear hR hF hb e14 e15 e16 e17 e18 e19 e20 e21 e22 e23 e24 e25 e26 e27 e28
        cases hdb : decide (p.s.blk = b)
        · have hst := Lib.hid (hstep.out (by rw [hdb]; rfl))
          clear hstep hany hdl hv8 hdb
          go_wp2_with fail
          go_roundw
          case rel => exact ⟨i + 1, HLT.out, by go_num, B4.out, hst.out⟩
          case measure => simp [intOf]; have := HLT.out; omega
        · have han := Lib.hid (hany.out (by rw [hdb]; rfl))
          clear hstep hany hdl hv8 hdb
          go_wp2_with fail
          go_ret
          exact ⟨by rw [han.out]; rfl, below_tr B0.out B4.out B0.out.size⟩
    · obtain rfl : i = k := by omega
      have hany : Hid (all.any (fun p => (decide (p.s.l = m) && decide (p.s.blk = b))) = false) := Lib.hid (by
        have := HNO.out
        rwa [HN.out, List.take_length] at this)
      clear hlt hi
      go_wp2_with fail
      go_ret
      exact ⟨by rw [hany.out]; rfl, below_tr B0.out HB.out B0.out.size⟩
end Go.Proofs.Ytmeakfocppooiaa
