/-
  THE REFERENCE's RING: Gens, Drop: the walks.
-/
import Derived.Test.YtmeakfocppooiaaGnA
namespace Go.Proofs.Ytmeakfocppooiaa
open Go.RowKit
set_option linter.unusedVariables false

def gensTo (t : Nat) (l : RgL) (n : Nat) : List Nat := (List.range n).filter fun x => (getR (t, x) l).isSome
theorem gensTo_succ (t : Nat) (l : RgL) (n : Nat) : gensTo t l (n + 1) = gensTo t l n ++ (if (getR (t, n) l).isSome then [n] else []) := by
  unfold gensTo
  rw [List.range_succ, List.filter_append]
  cases h : (getR (t, n) l).isSome <;> simp [h]
theorem getR_key {x : Nat × Nat} {l : RgL} : (getR x l).isSome = true ↔ x ∈ l.map (·.1) := by
  constructor
  · intro h
    obtain ⟨k, hk⟩ := Option.isSome_iff_exists.1 h
    exact List.mem_map.2 ⟨_, getR_mem hk, rfl⟩
  · intro h
    obtain ⟨p, hp, rfl⟩ := List.mem_map.1 h
    cases hg : getR p.1 l with
    | some k => rfl
    | none => exact absurd rfl (getR_none.1 hg p hp)
theorem gensTo_len {t : Nat} {l : RgL} {n : Nat} (hn : (l.map (·.1)).Nodup) : (gensTo t l n).length ≤ l.length := by
  have h1 : (gensTo t l n).Nodup := List.Pairwise.filter _ List.nodup_range
  have h2 := length_le_of_sub (l := gensK t (l.map (·.1))) h1 fun x hx => gensK_mem.2 (getR_key.1 (List.mem_filter.1 hx).2)
  have h3 := gensK_len t (l.map (·.1))
  rw [List.length_map] at h3
  omega
/-- the program's generations are the reference's -/
theorem gens_ref {t : Nat} {l : RgL} (hn : (l.map (·.1)).Nodup) (hok : ∀ p ∈ l.map (·.1), p.2 < 65536) : U16.srt (gensK t (l.map (·.1))) = gensTo t l 65536 := by
  refine U16.asc_eq (U16.srt_asc _ (gensK_nodup hn)) (List.Pairwise.filter _ List.pairwise_lt_range) fun x => ?_
  rw [U16.srt_mem, gensK_mem]
  unfold gensTo
  rw [List.mem_filter, List.mem_range, getR_key]
  exact ⟨fun h => ⟨hok _ h, h⟩, fun h => h.2⟩
set_option maxRecDepth 100000 in
set_option maxHeartbeats 4000000 in
theorem rgens_any (B g t : Nat) (v : Value) (vs : List ((Nat × Nat) × Value)) (l : RgL) (w : World) (h : RkB w B g v vs l) (ht : t < 4294967296) (hl : l.length ≤ 1000) (hn : (l.map (·.1)).Nodup) :
    Calls Try.prog 54 #[.pointer (some ⟨g, 0, none⟩), .int .u32 (t : Int)] w fun e w' => ∃ u, e = .returned u ∧ U16.NsB w' w.heap.size u (gensTo t l 65536) ∧ Below w.heap.size w w' := by
  have H0 := Lib.hid h
  have HL := Lib.hid hl
  have HT := Lib.hid ht
  have GL : Hid (∀ n, (gensTo t l n).length ≤ 1000) := Lib.hid fun n => Nat.le_trans (gensTo_len hn) hl
  clear h hl ht hn
  go_enter Try.func54, Try.ntmps54
  go_wp2_with fail
  go_loopw [5, 6] (fun u z wr => ∃ i : Nat, i ≤ 65536 ∧ z = .int .i64 (i : Int) ∧ U16.NsB wr w.heap.size u (gensTo t l i) ∧ Below w.heap.size w wr) (fun _ z _ => 65536 - (intOf z).toNat)
  case atStart => exact ⟨0, by omega, rfl, U16.NsB.nil _ _, Below.refl _ _⟩
  case round =>
    obtain ⟨i, hi, rfl, hv, hb⟩ := hrel
    have V0 := Lib.hid hv
    have NB := Lib.hid hb
    have SZ : Hid (w.heap.size ≤ wr.heap.size) := Lib.hid hb.size
    by_cases hlt : i < 65536
    · have hli : (i : Int) < 65536 := by omega
      have hmod : (i : Int) % 65536 = (i : Int) := by omega
      have HLT := Lib.hid hlt
      cases hs : getR (t, i) l with
      | none =>
        have HA := Lib.hid (rat_any B g t i v vs l wr (H0.out.ab hb) HT.out hlt HL.out (-1) (.inl ⟨rfl, hs⟩))
        have NX : Hid (gensTo t l (i + 1) = gensTo t l i) := Lib.hid (by rw [gensTo_succ, hs]; simp)
        clear hv hb hs hi hlt
        go_wp2_with (first | (go_at_call 49; refine HA.out.mono ?_; rintro e w1 ⟨rfl, rfl⟩))
        go_roundw
        case rel => exact ⟨i + 1, HLT.out, by go_num, by rw [NX.out]; exact V0.out, NB.out⟩
        case measure => simp [intOf]; have := HLT.out; omega
      | some k =>
        obtain ⟨j, hj, hmin⟩ := getR_idx hs
        have HA := Lib.hid (rat_any B g t i v vs l wr (H0.out.ab hb) HT.out hlt HL.out (j : Int) (.inr ⟨j, k, rfl, hj, hmin⟩))
        have NX : Hid (gensTo t l (i + 1) = gensTo t l i ++ [i]) := Lib.hid (by rw [gensTo_succ, hs]; simp)
        clear hv hb hs hi hlt hj hmin
        go_wp2_with (first
          | (go_at_call 49; refine HA.out.mono ?_; rintro e w1 ⟨rfl, rfl⟩)
          | (refine U16.wpList_appN rfl (.tmp 17) (.tmp 20) rfl (B := w.heap.size) (V0.out.ab ((Below.refl _ _).alloc (Nat.le_refl _) _)) rfl i rfl (CbB.new _ _ _) (by have := GL.out i; omega) (by have := SZ.out; simp; omega) ?_
             intro v5 w5 h5 g5
             have b3 : Below wr.heap.size wr (wr.alloc (.cells #[.int .u16 (i : Int)] 31)) := (Below.refl _ _).alloc (Nat.le_refl _) _
             have V5 := Lib.hid h5
             have B5 := Lib.hid (U16.below_grownO (below_tr NB.out b3 SZ.out) g5 (own_ge9 V0.out) (Nat.le_trans SZ.out b3.size))
             clear h5 g5 b3))
        go_roundw
        case rel => exact ⟨i + 1, HLT.out, by go_num, by rw [NX.out]; exact V5.out, B5.out⟩
        case measure => simp [intOf]; have := HLT.out; omega
    · obtain rfl : i = 65536 := by omega
      clear hlt hi hv hb
      go_wp2_with fail
      go_ret
      exact ⟨_, rfl, V0.out, NB.out⟩
def KrB (w : World) (B : Nat) (z : Value) (vs : List ((Nat × Nat) × Value)) : Prop := w.ownsRow B 117 3 z vs.length (keyCs vs)
theorem KrB.ab {w w' : World} {B : Nat} {z : Value} {vs : List ((Nat × Nat) × Value)} (h : KrB w B z vs) (hb : Below w.heap.size w w') : KrB w' B z vs := World.ownsRow.kept (row := none) h (grown_of hb none) (by cases hv : z.ownBlock <;> simp)
theorem wpList_appK {rest : List Oper} {ops : Array Oper} {o : Oper} {a : Act} {w : World} {Q : Exit → Act → World → Prop} (hgd : o.guard = none) (s x : Operand)
    (ho : o.op = .call { callee := .builtin .append, args := #[s, x], argTypes := #[108, 108] })
    {B G : Nat} {z : Value} {vs : List ((Nat × Nat) × Value)} (hown : KrB w B z vs) (hs : a.eval s = z) (p : (Nat × Nat) × Value) (hx : a.eval x = .slice (some ⟨G, 0, none⟩) 1 1) (hG : CbB w G 117 #[.int .u32 (p.1.1 : Int), .int .u16 (p.1.2 : Int), p.2]) (hu : ∃ A n c, p.2 = .slice A n c) (hl : vs.length ≤ 1000) (hB : B ≤ w.heap.size)
    (h : ∀ v' w', KrB w' B v' (vs ++ [p]) → w.grownBy w' z.ownBlock → wpList Try.prog ops Q rest (a.put o.dst v') w') : wpList Try.prog ops Q (o :: rest) a w := by
  obtain ⟨i0, hi0, hz0, hz1, hz2⟩ := info_parts infoKey
  obtain ⟨v1, W1, hrun, r1, r2, _⟩ := run_append_own (P := Try.prog) w B 108 o.type 117 i0 _ 3 32 Try.underlying108 hi0 hz0 hz1 hz2 rfl (by decide) z vs.length (keyCs vs) hown ⟨G, 0, none⟩ 1 1 [.int .u32 (p.1.1 : Int), .int .u16 (p.1.2 : Int), p.2] rfl (row_at hG) (by obtain ⟨A, n, c, e⟩ := hu; simp [Value.oneCell', e]) (by simp only [maxLen]; omega) (by omega) hB
  refine wpList_plain hgd fun K hK => ?_
  unfold Oper.wp execOp
  simp only [ho, resolve, invoke, builtin, Sem.run_bind, Sem.run_pure, Result.andThen_ok, List.map_toArray, List.map_cons, List.map_nil, hs, hx, hrun]
  refine hK _ _ (h v1 W1 ?_ r2)
  unfold KrB
  rw [keyCs_snoc, List.length_append, List.length_singleton]
  exact r1
theorem row_lower {w : World} {B C n s : Nat} {e : TypeId} {z : Value} {xs : List Value} (h : w.ownsRow C e s z n xs) (hB : B ≤ C) : w.ownsRow B e s z n xs := by
  refine ⟨h.1, ?_⟩
  rcases h.2 with h1 | ⟨g, cap, cur, h1, h2, h3⟩
  · exact .inl h1
  · exact .inr ⟨g, cap, cur, h1, Nat.le_trans hB h2, h3⟩
theorem dropL_snoc {x : Nat × Nat} {vs : List ((Nat × Nat) × Value)} {i : Nat} {p : (Nat × Nat) × Value} (h : vs[i]? = some p) : dropL x (vs.take (i + 1)) = dropL x (vs.take i) ++ (if p.1 = x then [] else [p]) := by
  unfold dropL
  rw [List.take_add_one, h, List.filter_append]
  by_cases e : p.1 = x <;> simp [e]
theorem dropL_len {x : Nat × Nat} {vs : List ((Nat × Nat) × Value)} : (dropL x vs).length ≤ vs.length := List.length_filter_le _ _
theorem nodup_at {l : RgL} (hn : (l.map (·.1)).Nodup) {i j : Nat} {p q : (Nat × Nat) × List Nat} (hi : l[i]? = some p) (hj : l[j]? = some q) (he : p.1 = q.1) : i = j := by
  have h1 : (l.map (·.1))[i]? = some p.1 := by rw [List.getElem?_map, hi]; rfl
  have h2 : (l.map (·.1))[j]? = some p.1 := by rw [List.getElem?_map, hj, he]; rfl
  have hil := (List.getElem?_eq_some_iff.1 h1).1
  exact (List.getElem?_inj hil hn).1 (h1.trans h2.symm)
set_option maxRecDepth 100000 in
set_option maxHeartbeats 4000000 in
theorem rkDrop_any (B g t gn : Nat) (v : Value) (vs : List ((Nat × Nat) × Value)) (l : RgL) (w : World) (h : RkB w B g v vs l) (ht : t < 4294967296) (hg : gn < 65536) (hl : l.length ≤ 1000) (hn : (l.map (·.1)).Nodup) :
    Calls Try.prog 56 #[.pointer (some ⟨g, 0, none⟩), .int .u32 (t : Int), .int .u16 (gn : Int)] w fun e w' => ∃ v' vs', e = .returned (.int .i64 ((dropR (t, gn) l).1 : Int)) ∧ RkB w' B g v' vs' (dropR (t, gn) l).2 ∧ Fr w w' (fun k => k = g) := by
  cases hs : getR (t, gn) l with
  | none =>
    have HA := Lib.hid (rat_any B g t gn v vs l w h ht hg hl (-1) (.inl ⟨rfl, hs⟩))
    have H0 := Lib.hid h
    unfold dropR
    rw [hs]
    clear h ht hg hl hn hs
    go_enter Try.func56, Try.ntmps56
    go_wp2_with (first | (go_at_call 49; refine HA.out.mono ?_; rintro e w1 ⟨rfl, rfl⟩))
    go_ret
    exact ⟨_, _, rfl, H0.out, Fr.of (Below.refl _ _) _⟩
  | some k =>
    obtain ⟨j, hj, hmin⟩ := getR_idx hs
    have HA := Lib.hid (rat_any B g t gn v vs l w h ht hg hl (j : Int) (.inr ⟨j, k, rfl, hj, hmin⟩))
    have H0 := Lib.hid h
    unfold dropR
    rw [hs]
    have hjl : j < l.length := (List.getElem?_eq_some_iff.1 hj).1
    obtain ⟨gb, cap, rfl, hB, hgb, hnc, hcm, hcell⟩ := h.form (by omega)
    obtain ⟨n, hnn⟩ : ∃ n, n = l.length := ⟨_, rfl⟩
    have HN := Lib.hid hnn
    have hc : w.cell? ⟨g, 0, none⟩ = some (.slice (some ⟨gb, 0, none⟩) n cap) := by rw [hnn]; exact h.box.cell (k := 0) rfl
    have HC := Lib.hid hc
    have GL := Lib.hid h.box.lt
    have VL : Hid (vs.length = n) := Lib.hid (by rw [hnn]; exact h.vals.len)
    have HCE := Lib.hid hcell
    have GB := Lib.hid hgb
    have HJ := Lib.hid hj
    have ND := Lib.hid hn
    have hnb : (n : Int) ≤ 1000 := by omega
    have hjb : (j : Int) ≤ 1000 := by omega
    have N1 : Hid (n ≤ 1000) := Lib.hid (by omega)
    clear h ht hg hl hn hs hj hmin hcell hnc hcm hB hgb hnn hjl
    go_enter Try.func56, Try.ntmps56
    go_wp2_with (first | (go_at_call 49; refine HA.out.mono ?_; rintro e w1 ⟨rfl, rfl⟩))
    go_loopw [8, 9] (fun u z wr => ∃ i : Nat, i ≤ n ∧ z = .int .i64 (i : Int) ∧ KrB wr w.heap.size u (dropL (t, gn) (vs.take i)) ∧ Below w.heap.size w wr) (fun _ z _ => n - (intOf z).toNat)
    case atStart => exact ⟨0, Nat.zero_le _, rfl, World.ownsRow_nil _ _ _ _, Below.refl _ _⟩
    case round =>
      obtain ⟨i, hi, rfl, hv, hb⟩ := hrel
      have V0 := Lib.hid hv
      have NB := Lib.hid hb
      have SZ : Hid (w.heap.size ≤ wr.heap.size) := Lib.hid hb.size
      have hcr : wr.cell? ⟨g, 0, none⟩ = some (.slice (some ⟨gb, 0, none⟩) n cap) := (hb.cell (show (⟨g, 0, none⟩ : Addr).block < w.heap.size from GL.out)).trans HC.out
      by_cases hlt : i < n
      · have hli : (i : Int) < (n : Int) := by omega
        have HLT := Lib.hid hlt
        obtain ⟨q, hq⟩ : ∃ q, l[i]? = some q := ⟨_, List.getElem?_eq_getElem (by rw [← HN.out]; exact hlt)⟩
        obtain ⟨u, hu, ho⟩ := H0.out.vals.at hq
        obtain ⟨u', c0, c1, c2, _⟩ := HCE.out i q hq
        obtain ⟨Au, cu, rfl, _, _⟩ := ho.shape
        by_cases e1 : i = j
        · have d1 : decide ((i : Int) = (j : Int)) = true := by simp [e1]
          have d2 : ((i : Int) != (j : Int)) = false := by simp [e1]
          have d3 : ((i : Int) == (j : Int)) = true := by simp [e1]
          have NX : Hid (dropL (t, gn) (vs.take (i + 1)) = dropL (t, gn) (vs.take i)) := Lib.hid (by
            rw [dropL_snoc hu, if_pos, List.append_nil]
            have := HJ.out
            rw [← e1, hq] at this
            injection this with this
            rw [this])
          clear e1 hv hb hi hlt hq hu ho c0 c1 c2
          go_wp2_with fail
          go_roundw
          case rel => exact ⟨i + 1, HLT.out, by go_num, by rw [NX.out]; exact V0.out, NB.out⟩
          case measure => simp [intOf]; have := HLT.out; omega
        · have d2 : ((i : Int) != (j : Int)) = true := by rw [bne_iff_ne]; omega
          have d3 : ((i : Int) == (j : Int)) = false := by simp; omega
          have NX : Hid (dropL (t, gn) (vs.take (i + 1)) = dropL (t, gn) (vs.take i) ++ [(q.1, .slice Au q.2.length cu)]) := Lib.hid (by
            rw [dropL_snoc hu, if_neg]
            intro e
            exact e1 (nodup_at ND.out hq HJ.out e))
          have DL : Hid ((dropL (t, gn) (vs.take i)).length ≤ 1000) := Lib.hid (Nat.le_trans dropL_len (by rw [List.length_take]; have := VL.out; have := N1.out; omega))
          have ee : u' = .slice Au q.2.length cu := by
            have h1 := (H0.out.own.cells (g := gb) rfl (i * 3 + 2) _ (keyCs_at vs i _ hu).2.2)
            rw [Addr.add_mid, Nat.zero_add, c2] at h1
            injection h1
          subst ee
          have k0 := (hb.cell (show (⟨gb, i * 3, none⟩ : Addr).block < w.heap.size from GB.out)).trans c0
          have k1 := (hb.cell (show (⟨gb, i * 3 + 1, none⟩ : Addr).block < w.heap.size from GB.out)).trans c1
          have k2 := (hb.cell (show (⟨gb, i * 3 + 2, none⟩ : Addr).block < w.heap.size from GB.out)).trans c2
          clear e1 hv hb hi hlt hq hu ho c0 c1 c2
          go_wp2_with (first
            | (refine wpList_appK rfl (.tmp 28) (.tmp 36) rfl (B := w.heap.size) (V0.out.ab ((Below.refl _ _).alloc (Nat.le_refl _) _)) rfl (q.1, .slice Au q.2.length cu) rfl (CbB.new _ _ _) ⟨_, _, _, rfl⟩ DL.out (by have := SZ.out; simp; omega) ?_
               intro v5 w5 h5 g5
               have b3 : Below wr.heap.size wr (wr.alloc (.cells #[.int .u32 (q.1.1 : Int), .int .u16 (q.1.2 : Int), .slice Au q.2.length cu] 117)) := (Below.refl _ _).alloc (Nat.le_refl _) _
               have V5 := Lib.hid h5
               have B5 := Lib.hid (U16.below_grownO (below_tr NB.out b3 SZ.out) g5 (own_ge9 V0.out) (Nat.le_trans SZ.out b3.size))
               clear h5 g5 b3))
          go_roundw
          case rel => exact ⟨i + 1, HLT.out, by go_num, by rw [NX.out]; exact V5.out, B5.out⟩
          case measure => simp [intOf]; have := HLT.out; omega
      · obtain rfl : i = n := by omega
        have W0 : Hid (KrB wr w.heap.size u8 (dropL (t, gn) vs)) := Lib.hid (by have := V0.out; rwa [List.take_of_length_le (by have := VL.out; omega)] at this)
        have G2 := Lib.hid (H0.out.box.ab hb)
        have hf := G2.out.free 0
        obtain ⟨A7, c7, rfl⟩ := row_shape W0.out
        clear hlt hi hv hb
        go_wp2_with fail
        go_ret
        have hgc := grown_cell wr g 0 (.slice A7 (dropL (t, gn) vs).length c7)
        have hfg := Fr.grown hgc
        have nq : ∀ k, (Value.slice A7 (dropL (t, gn) vs).length c7).ownBlock = some k → ¬ (some g = some k) := fun k hk e => by
          injection e with e
          subst e
          exact row_ne W0.out G2.out (by decide) hk
        have fvals : ∀ z k, OwB wr B z k → OwB (wr.setCell ⟨g, 0, none⟩ (.slice A7 (dropL (t, gn) vs).length c7)) B z k := fun z k hz => hz.fr hfg (fun q hq e => by
          injection e with e
          subst e
          exact own_ne' (by decide) G2.out hz hq)
        have hvs := ((H0.out.vals.ab NB.out).imp fvals).drop (t, gn)
        have hlen := hvs.len
        refine ⟨_, _, rfl, ⟨G2.out.set 0 _, ?_, hvs, Nat.le_trans H0.out.low (Nat.le_trans NB.out.size (by simp)), fun p hp => H0.out.ne p (List.mem_filter.1 hp).1⟩, (Fr.of NB.out _).tr (hfg.imp fun k hk => by injection hk with hk; exact hk.symm)⟩
        rw [← hlen]
        exact row_lower (row_fr W0.out hfg nq) H0.out.low
end Go.Proofs.Ytmeakfocppooiaa
