/-
  RINGS, THEIR VALUES BY NAME: Add with the new value's block told to be fresh. A parameter []Op of the law on rings.
-/
import Derived.Test.YtmeakfocppooiaaGnB
import Derived.Test.YtmeakfocppooiaaSlA
namespace Go.Proofs.Ytmeakfocppooiaa
open Go.RowKit
set_option linter.unusedVariables false

/-- a ring whose values have names -/
structure RgE (w : World) (B g m : Nat) (vs : List ((Nat × Nat) × Value)) (l : RgL) : Prop where
  box : w.heap[g]? = some (.cells #[.map (some m)] 173 (0, 0))
  low : B ≤ m
  map : MapB whV whOk w m vs
  vals : RgV w B vs l
  ne : ∀ p ∈ l, KeyOk p.2
theorem RgE.rgB {w : World} {B g m : Nat} {vs : List ((Nat × Nat) × Value)} {l : RgL} (h : RgE w B g m vs l) : RgB w B g m l := ⟨h.box, h.low, ⟨vs, h.map, h.vals⟩, h.ne⟩
theorem RgB.rgE {w : World} {B g m : Nat} {l : RgL} (h : RgB w B g m l) : ∃ vs, RgE w B g m vs l := by
  obtain ⟨vs, h1, h2⟩ := h.map
  exact ⟨vs, h.box, h.low, h1, h2, h.ne⟩
/-- no value lies in a block -/
def NoX (vs : List ((Nat × Nat) × Value)) (X : Nat) : Prop := ∀ p ∈ vs, p.2.ownBlock ≠ some X
theorem RgV.low {w : World} {B X : Nat} : ∀ {vs : List ((Nat × Nat) × Value)} {l : RgL}, RgV w B vs l → w.heap.size ≤ X → NoX vs X
  | [], [], _, _ => fun p hp => by cases hp
  | p :: ps, q :: qs, h, hX => fun x hx => by
    rcases List.mem_cons.1 hx with rfl | hx
    · intro e
      have := (h.1.2.lt _ e).2
      omega
    · exact RgV.low h.2 hX x hx
  | [], _ :: _, h, _ => h.elim
  | _ :: _, [], h, _ => h.elim
theorem NoX.snoc {vs : List ((Nat × Nat) × Value)} {X C : Nat} {x : Nat × Nat} {u : Value} (h : NoX vs X) (hu : ∀ g, u.ownBlock = some g → C ≤ g) (hX : X < C) : NoX (vs ++ [(x, u)]) X := fun p hp => by
  rcases List.mem_append.1 hp with hp | hp
  · exact h p hp
  · rw [List.mem_singleton] at hp
    subst hp
    intro e
    have := hu X e
    omega
theorem NoX.drop {vs : List ((Nat × Nat) × Value)} {X : Nat} {x : Nat × Nat} (h : NoX vs X) : NoX (dropL x vs) X := fun p hp => h p (List.mem_filter.1 hp).1
set_option maxRecDepth 100000 in
set_option maxHeartbeats 2000000 in
theorem ringAdd_yesE (B g m t gn kn kc : Nat) (kA : Option Addr) (key : List Nat) (vs : List ((Nat × Nat) × Value)) (l : RgL) (w : World) (h : RgE w B g m vs l) (ht : t < 4294967296) (hg : gn < 65536) (ik : IsB w kA kn kc key) (hk : KeyOk key) (hs : getR (t, gn) l = none) :
    Calls Try.prog 50 #[.pointer (some ⟨g, 0, none⟩), .int .u32 (t : Int), .int .u16 (gn : Int), .slice kA kn kc] w fun e w' => ∃ u, e = .returned (.int .i64 0) ∧ RgE w' B g m (vs ++ [((t, gn), u)]) (l ++ [((t, gn), key)]) ∧ OwB w' w.heap.size u key ∧ w.grownBy w' (some m) := by
  have lk := ik.len
  have hk2 := hk
  unfold KeyOk at hk2
  obtain ⟨X, rfl, _, _⟩ := ik.cell (by omega)
  have hc := h.rgB.cell
  have h1 := h.map
  have h2 := h.vals
  have hok : whOk (t, gn) := ⟨ht, hg⟩
  have HM := Lib.hid (smay_any (some X) kn kc 1 w)
  have eM : Hid (decide ((kn = 16 ∨ kn = 32) ∧ 1 ≤ 1 ∧ 1 ≤ 4) = true) := Lib.hid (decide_eq_true ⟨by omega, by decide, by decide⟩)
  have e1 : lookL (t, gn) vs = none := by
    rcases h2.look (t, gn) with ⟨e1, e2⟩ | ⟨v, k, e1, e2, e3⟩
    · exact e1
    · rw [hs] at e2; cases e2
  have hlk : (Instr.lookup 171 (.map (some m)) (.agg #[.int .u32 (t : Int), .int .u16 (gn : Int)]) true).run Try.prog w = .ok (.tuple #[.slice none 0 0, .bool false]) w := h1.look_none wh_K Try.underlying171 hok e1 (zero_bytes w) true
  have HR := Lib.hid h.rgB
  have H1 := Lib.hid h1
  have H2 := Lib.hid h2
  have E1 := Lib.hid e1
  have HK := Lib.hid hk
  have IK := Lib.hid ik
  have LK := Lib.hid lk
  have HN : Hid (kn ≤ 32 ∧ 0 < kn) := Lib.hid (by omega)
  have HO := Lib.hid hok
  clear h h1 h2 hok ht hg hk hk2 hs e1 ik lk
  go_enter Try.func50, Try.ntmps50
  go_wp2_with fail
  refine HM.out.mono ?_
  rw [eM.out]
  rintro e w' ⟨rfl, rfl⟩
  go_wp2_with fail
  refine wp_wide3 [⟨28, IsR (.pointer (some ⟨g, 0, none⟩)), [], false⟩, ⟨29, IsR (.pointer (some ⟨g, 0, none⟩)), [0], false⟩, ⟨30, IsR (.pointer (some ⟨g, 0, none⟩)), [1], false⟩, ⟨31, IsR (.map (some m)), [2], false⟩, ⟨32, IsR (.int .u32 (t : Int)), [], false⟩, ⟨33, IsR (.int .u16 (gn : Int)), [], false⟩, ⟨34, IsR (.agg #[.int .u32 (t : Int), .int .u16 (gn : Int)]), [4, 5], false⟩, ⟨35, EmR, [], false⟩, ⟨36, IsR (.slice (some X) kn kc), [], false⟩, ⟨37, OwR w.heap.size key, [7, 8], false⟩] (by kernel_rfl) (by kernel_rfl) rfl rfl rfl ⟨?_, ?_, ?_, ?_, ?_, ?_, ?_, ?_, ?_, ?_, trivial⟩ ?_
  · refine ⟨rfl, IsR.mono _, fun a W hA hb hd => takes_plain rfl (yields_value _ ?_ rfl)⟩
    have h0 : a.tmps[0]?.getD undef = .pointer (some ⟨g, 0, none⟩) := (eval_get a 0).trans ((hA.eval (by simp)).trans rfl)
    go_simp
  · refine ⟨rfl, IsR.mono _, fun a W hA hb hd => takes_plain rfl (yields_value _ ?_ rfl)⟩
    have h28 : a.tmps[28]?.getD undef = .pointer (some ⟨g, 0, none⟩) := (eval_get a 28).trans (hd 0 (by simp) _ rfl)
    go_simp
  · refine ⟨rfl, IsR.mono _, fun a W hA hb hd => takes_plain rfl (yields_value _ ?_ rfl)⟩
    have h29 : a.tmps[29]?.getD undef = .pointer (some ⟨g, 0, none⟩) := (eval_get a 29).trans (hd 1 (by simp) _ rfl)
    go_simp
  · refine ⟨rfl, IsR.mono _, fun a W hA hb hd => takes_plain rfl (yields_value _ ?_ rfl)⟩
    have h30 : a.tmps[30]?.getD undef = .pointer (some ⟨g, 0, none⟩) := (eval_get a 30).trans (hd 2 (by simp) _ rfl)
    have hcc := (HR.out.ab hb).cell
    go_simp
  · refine ⟨rfl, IsR.mono _, fun a W hA hb hd => takes_plain rfl (yields_value _ ?_ rfl)⟩
    have h1 : a.tmps[1]?.getD undef = .int .u32 (t : Int) := (eval_get a 1).trans ((hA.eval (by simp)).trans rfl)
    go_simp
  · refine ⟨rfl, IsR.mono _, fun a W hA hb hd => takes_plain rfl (yields_value _ ?_ rfl)⟩
    have h2 : a.tmps[2]?.getD undef = .int .u16 (gn : Int) := (eval_get a 2).trans ((hA.eval (by simp)).trans rfl)
    go_simp
  · refine ⟨rfl, IsR.mono _, fun a W hA hb hd => takes_plain rfl (yields_value _ ?_ rfl)⟩
    have h32 : a.tmps[32]?.getD undef = .int .u32 (t : Int) := (eval_get a 32).trans (hd 4 (by simp) _ rfl)
    have h33 : a.tmps[33]?.getD undef = .int .u16 (gn : Int) := (eval_get a 33).trans (hd 5 (by simp) _ rfl)
    go_simp
  · refine ⟨rfl, EmR.mono, fun a W hA hb hd => takes_plain rfl ?_⟩
    exact yields_empty rfl
  · refine ⟨rfl, IsR.mono _, fun a W hA hb hd => takes_plain rfl (yields_value _ ?_ rfl)⟩
    have h3 : a.tmps[3]?.getD undef = .slice (some X) kn kc := (eval_get a 3).trans ((hA.eval (by simp)).trans rfl)
    go_simp
  · refine ⟨rfl, OwR.mono _ _, fun a W hA hb hd => takes_plain rfl ?_⟩
    obtain ⟨Y, he⟩ := hd 7 (by simp) _ rfl
    have hs : a.eval (.tmp 35) = .slice (some Y) 0 0 := he
    have hx : a.eval (.tmp 36) = .slice (some X) kn kc := hd 8 (by simp) _ rfl
    exact yields_appG (.tmp 35) (.tmp 36) rfl (isB_empty W Y) hs (IK.out.ab hb) hx (by have := HN.out.2; omega) (by have := HN.out.1; omega) fun v1 W1 h1 h2 => by
      rw [List.nil_append] at h1
      exact OwB.lower h1 hb.size
  intro vs9 w9 hR hF hb
  have K9 : Hid (OwB w9 w.heap.size (vs9 37) key) := Lib.hid (hR 9 _ rfl)
  have e28 : vs9 28 = .pointer (some ⟨g, 0, none⟩) := hR 0 _ rfl
  have e29 : vs9 29 = .pointer (some ⟨g, 0, none⟩) := hR 1 _ rfl
  have e30 : vs9 30 = .pointer (some ⟨g, 0, none⟩) := hR 2 _ rfl
  have e31 : vs9 31 = .map (some m) := hR 3 _ rfl
  have e32 : vs9 32 = .int .u32 (t : Int) := hR 4 _ rfl
  have e33 : vs9 33 = .int .u16 (gn : Int) := hR 5 _ rfl
  have e34 : vs9 34 = .agg #[.int .u32 (t : Int), .int .u16 (gn : Int)] := hR 6 _ rfl
  have e36 : vs9 36 = .slice (some X) kn kc := hR 8 _ rfl
  simp only [List.map_cons, List.map_nil, List.foldl_cons, List.foldl_nil, List.length_cons, List.length_nil, List.drop_succ_cons, List.drop_zero, Act.put, List.setIfInBounds_toArray, List.set_cons_zero, List.set_cons_succ, e28, e29, e30, e31, e32, e33, e34, e36]
  have B9 := Lib.hid hb
  clear hR hF hb e28 e29 e30 e31 e32 e33 e34 e36
  generalize vs9 35 = q35 at *
  generalize vs9 37 = q37 at *
  go_wp2_with (refine wpList_mapPut rfl (.tmp 31) (.tmp 34) (.tmp 37) rfl wh_K Try.underlying171 rfl (H1.out.ab B9.out) (t, gn) HO.out rfl q37 rfl ?_
               intro w10 h10 hg10 hz10 hb10
               have M10 := Lib.hid h10
               have G10 := Lib.hid hg10
               clear h10 hg10 hz10 hb10)
  go_ret
  have hB : B ≤ w.heap.size := Nat.le_of_lt (Nat.lt_of_le_of_lt HR.out.low HR.out.mlt)
  have R9 := HR.out.ab B9.out
  have hne : g ≠ m := fun e => by
    subst e
    obtain ⟨es, c, q, _⟩ := H1.out
    rw [HR.out.box] at q
    cases q
  have hput : putL (t, gn) q37 vs = vs ++ [((t, gn), q37)] := by simp [putL, E1.out]
  have M9 := H1.out.ab B9.out
  have k10 := K9.out.grown G10.out (notMap K9.out M9)
  refine ⟨q37, rfl, ⟨(G10.out.block g R9.lt (by simp [hne])).trans R9.box, HR.out.low, by rw [← hput]; exact M10.out, ?_, ?_⟩, k10, ?_⟩
  · have hvs : RgV w10 B vs l := (H2.out.ab B9.out).imp fun v k hv => hv.grown G10.out (notMap hv M9)
    exact RgV.snoc (k10.lower hB) hvs
  · intro p hp
    rcases List.mem_append.1 hp with hp | hp
    · exact HR.out.ne p hp
    · rw [List.mem_singleton] at hp
      subst hp
      exact HK.out
  · have hb := B9.out
    exact ⟨G10.out.os.trans hb.os, G10.out.tape.trans hb.tape, G10.out.output.trans hb.output, Nat.le_trans hb.size G10.out.size, fun i hi hne => (G10.out.block i (Nat.lt_of_lt_of_le hi hb.size) hne).trans (hb.block i hi)⟩
set_option maxRecDepth 100000 in
set_option maxHeartbeats 4000000 in
theorem rkAdd_yesE (B g t gn : Nat) (v : Value) (vs : List ((Nat × Nat) × Value)) (l : RgL) (kA : Option Addr) (kn kc : Nat) (key : List Nat) (w : World) (h : RkB w B g v vs l) (ht : t < 4294967296) (hg : gn < 65536) (h200 : l.length ≤ 1000) (ik : IsB w kA kn kc key) (hkA : ∀ x, kA = some x → v.ownBlock ≠ some x.block) (hk : KeyOk key) (hs : getR (t, gn) l = none) :
    Calls Try.prog 51 #[.pointer (some ⟨g, 0, none⟩), .int .u32 (t : Int), .int .u16 (gn : Int), .slice kA kn kc] w fun e w' => ∃ v' u, e = .returned (.int .i64 0) ∧ RkB w' B g v' (vs ++ [((t, gn), u)]) (l ++ [((t, gn), key)]) ∧ OwB w' w.heap.size u key ∧ Fr w w' (fun k => k = g ∨ v.ownBlock = some k) := by
  obtain ⟨i0, hi0, hz0, hz1, hz2⟩ := info_parts infoKey
  have lk := ik.len
  have hk2 : kn = 16 ∨ kn = 32 := by unfold KeyOk at hk; omega
  have HM := Lib.hid (may_yes kA kn kc w hk2)
  have HA := Lib.hid (rat_any B g t gn v vs l w h ht hg h200 (-1) (.inl ⟨rfl, hs⟩))
  have HR := Lib.hid h
  have IK := Lib.hid ik
  have KA := Lib.hid hkA
  have HK := Lib.hid hk
  have LK := Lib.hid lk
  have HN := Lib.hid hk2
  have H2 := Lib.hid h200
  have NG : Hid (v.ownBlock ≠ some g) := Lib.hid (row_ne h.own h.box (by decide))
  have GL := Lib.hid h.box.lt
  have VL : Hid (∀ k, v.ownBlock = some k → k < w.heap.size) := Lib.hid fun k hk => by
    rcases h.own.2 with ⟨rfl, _⟩ | ⟨g', cap, cur, rfl, _, hh, _⟩
    · cases hk
    · have : g' = k := by injection hk
      subst this
      exact (Array.getElem?_eq_some_iff.1 hh).1
  clear h ht hg h200 ik hkA hk hk2 hs lk
  go_enter Try.func51, Try.ntmps51
  go_wp2_with fail
  refine HM.out.mono ?_
  rintro e w' ⟨rfl, rfl⟩
  go_wp2_with fail
  refine HA.out.mono ?_
  rintro e w' ⟨rfl, rfl⟩
  go_wp2_with fail
  refine wp_wide5 (fun i k => i = 11 ∧ v.ownBlock = some k) [⟨17, IsR (.pointer (some ⟨g, 0, none⟩)), [], false⟩, ⟨18, IsR (.pointer (some ⟨g, 0, none⟩)), [], false⟩, ⟨19, IsR (.pointer (some ⟨g, 0, none⟩)), [1], false⟩, ⟨20, IsR (.pointer (some ⟨g, 0, none⟩)), [2], false⟩, ⟨21, IsR (v), [3], false⟩, ⟨22, IsR (.int .u32 (t : Int)), [], false⟩, ⟨23, IsR (.int .u16 (gn : Int)), [], false⟩, ⟨24, IsR (.slice kA kn kc), [], false⟩, ⟨25, CpyR w.heap.size kn key, [7], false⟩, ⟨26, (fun z W => ∃ u, z = .agg #[.int .u32 (t : Int), .int .u16 (gn : Int), u] ∧ CpyR w.heap.size kn key u W), [5, 6, 8], false⟩, ⟨27, (fun z W => ∃ G u, z = .slice (some ⟨G, 0, none⟩) 1 1 ∧ CbB W G 117 #[.int .u32 (t : Int), .int .u16 (gn : Int), u] ∧ w.heap.size ≤ G ∧ CpyR w.heap.size kn key u W), [9], false⟩, ⟨28, (fun z W => ∃ u, CpyR w.heap.size kn key u W ∧ W.ownsRow B 117 3 z (l.length + 1) (keyCs vs ++ [.int .u32 (t : Int), .int .u16 (gn : Int), u])), [4, 10], false⟩, ⟨29, IsR (.pointer (some ⟨g, 0, none⟩)), [0], false⟩, ⟨30, IsR (.pointer (some ⟨g, 0, none⟩)), [12], false⟩] (by kernel_rfl) (by kernel_rfl) rfl rfl rfl ⟨?_, ?_, ?_, ?_, ?_, ?_, ?_, ?_, ?_, ?_, ?_, ?_, ?_, ?_, trivial⟩ ?_
  · refine ⟨rfl, IsR.monoF _ _, fun a W hA hb hd => Takes.to5 (takes_plain rfl (yields_value _ ?_ rfl)) _⟩
    have h0 : a.tmps[0]?.getD undef = .pointer (some ⟨g, 0, none⟩) := (eval_get a 0).trans ((hA.eval (by simp)).trans rfl)
    go_simp
  · refine ⟨rfl, IsR.monoF _ _, fun a W hA hb hd => Takes.to5 (takes_plain rfl (yields_value _ ?_ rfl)) _⟩
    have h0 : a.tmps[0]?.getD undef = .pointer (some ⟨g, 0, none⟩) := (eval_get a 0).trans ((hA.eval (by simp)).trans rfl)
    go_simp
  · refine ⟨rfl, IsR.monoF _ _, fun a W hA hb hd => Takes.to5 (takes_plain rfl (yields_value _ ?_ rfl)) _⟩
    have h18 : a.tmps[18]?.getD undef = .pointer (some ⟨g, 0, none⟩) := (eval_get a 18).trans (hd 1 (by simp) _ rfl)
    go_simp
  · refine ⟨rfl, IsR.monoF _ _, fun a W hA hb hd => Takes.to5 (takes_plain rfl (yields_value _ ?_ rfl)) _⟩
    have h19 : a.tmps[19]?.getD undef = .pointer (some ⟨g, 0, none⟩) := (eval_get a 19).trans (hd 2 (by simp) _ rfl)
    go_simp
  · refine ⟨rfl, IsR.monoF _ _, fun a W hA hb hd => Takes.to5 (takes_plain rfl (yields_value _ ?_ rfl)) _⟩
    have h20 : a.tmps[20]?.getD undef = .pointer (some ⟨g, 0, none⟩) := (eval_get a 20).trans (hd 3 (by simp) _ rfl)
    have hc : W.cell? ⟨g, 0, none⟩ = some v := (HR.out.box.fr hb (fun ⟨j, _, _, hj⟩ => NG.out hj)).cell (k := 0) rfl
    obtain ⟨A, cp, hv⟩ := row_shape HR.out.own
    subst hv
    go_simp
  · refine ⟨rfl, IsR.monoF _ _, fun a W hA hb hd => Takes.to5 (takes_plain rfl (yields_value _ ?_ rfl)) _⟩
    have h1 : a.tmps[1]?.getD undef = .int .u32 (t : Int) := (eval_get a 1).trans ((hA.eval (by simp)).trans rfl)
    go_simp
  · refine ⟨rfl, IsR.monoF _ _, fun a W hA hb hd => Takes.to5 (takes_plain rfl (yields_value _ ?_ rfl)) _⟩
    have h2 : a.tmps[2]?.getD undef = .int .u16 (gn : Int) := (eval_get a 2).trans ((hA.eval (by simp)).trans rfl)
    go_simp
  · refine ⟨rfl, IsR.monoF _ _, fun a W hA hb hd => Takes.to5 (takes_plain rfl (yields_value _ ?_ rfl)) _⟩
    have h3 : a.tmps[3]?.getD undef = .slice kA kn kc := (eval_get a 3).trans ((hA.eval (by simp)).trans rfl)
    go_simp
  · refine ⟨rfl, fun z W W1 h1 hf => h1.fr hf (fun k ⟨j, _, _, hj⟩ => VL.out k hj), fun a W hA hb hd => takes5_plain rfl ?_⟩
    have h24 : a.tmps[24]?.getD undef = .slice kA kn kc := (eval_get a 24).trans (hd 7 (by simp) _ rfl)
    refine Yields.to5 (yields_call 19 #[.slice kA kn kc] (by go_simp) ((copy_any kA kn kc key W (IK.out.fr hb (fun x hx ⟨j, _, _, hj⟩ => KA.out x hx hj)) (by have := HN.out; omega)).mono ?_)) _
    rintro e W1 ⟨rfl, hk1, hb1⟩
    exact ⟨_, rfl, ⟨_, rfl, hb.size, (OwB.ofBk hk1 (Nat.le_refl _) LK.out (by omega) (by rw [List.length_append, LK.out, zeros_len]) (by have := HN.out; omega) (by rw [List.take_append_of_le_length (by rw [LK.out]; exact Nat.le_refl _), List.take_of_length_le (by rw [LK.out]; exact Nat.le_refl _)]) IK.out.2).lower hb.size⟩, hb1⟩
  · refine ⟨rfl, fun z W W1 ⟨u, h1, h2⟩ hf => ⟨u, h1, h2.fr hf (fun k ⟨j, _, _, hj⟩ => VL.out k hj)⟩, fun a W hA hb hd => takes5_plain rfl ?_⟩
    have h22 : a.tmps[22]?.getD undef = .int .u32 (t : Int) := (eval_get a 22).trans (hd 5 (by simp) _ rfl)
    have h23 : a.tmps[23]?.getD undef = .int .u16 (gn : Int) := (eval_get a 23).trans (hd 6 (by simp) _ rfl)
    obtain ⟨Gc, hGe, hG1, hG2⟩ := hd 8 (by simp) _ rfl
    have h25 : a.tmps[25]?.getD undef = .slice (some ⟨Gc, 0, none⟩) kn (kn + 3) := (eval_get a 25).trans hGe
    rw [hGe] at hG2
    refine Yields.to5 (yields_value (.agg #[.int .u32 (t : Int), .int .u16 (gn : Int), .slice (some ⟨Gc, 0, none⟩) kn (kn + 3)]) ?_ ⟨_, rfl, Gc, rfl, hG1, hG2⟩) _
    go_simp
  · refine ⟨rfl, fun z W W1 ⟨G1, u, h1, h2, h3, h4⟩ hf => ⟨G1, u, h1, h2.fr hf (fun ⟨j, _, _, hj⟩ => by have := VL.out _ hj; omega), h3, h4.fr hf (fun k ⟨j, _, _, hj⟩ => VL.out k hj)⟩, fun a W hA hb hd => takes5_plain rfl ?_⟩
    obtain ⟨u, hu, Gc, rfl, hG1, hG2⟩ := hd 9 (by simp) _ rfl
    have h26 : a.tmps[26]?.getD undef = .agg #[.int .u32 (t : Int), .int .u16 (gn : Int), .slice (some ⟨Gc, 0, none⟩) kn (kn + 3)] := (eval_get a 26).trans hu
    refine .inl ⟨.slice (some ⟨W.heap.size, 0, none⟩) 1 1, W.alloc (.cells #[.int .u32 (t : Int), .int .u16 (gn : Int), .slice (some ⟨Gc, 0, none⟩) kn (kn + 3)] 117), ?_, ⟨_, _, rfl, CbB.new _ _ _, hb.size, Gc, rfl, hG1, hG2.alloc _⟩, Fr.of ((Below.refl _ _).alloc (Nat.le_refl _) _) _⟩
    go_simp
  · refine ⟨rfl, fun z W W1 ⟨u, h1, h2⟩ hf => ⟨u, h1.fr hf (fun k ⟨j, hj, hj2, _⟩ => absurd hj2 hj), row_fr h2 hf (fun k hk ⟨j, hj, hj2, _⟩ => hj hj2)⟩, fun a W hA hb hd => takes5_plain rfl ?_⟩
    have hs : a.eval (.tmp 21) = v := hd 4 (by simp) _ rfl
    obtain ⟨Gs, u, he, hcb, hGs, hcu⟩ := hd 10 (by simp) _ rfl
    have hx : a.eval (.tmp 27) = .slice (some ⟨Gs, 0, none⟩) 1 1 := he
    have hown := row_fr HR.out.own hb (fun k hk ⟨j, hj, hj2, _⟩ => hj hj2)
    obtain ⟨Gc, rfl, hG1, hG2⟩ := hcu
    obtain ⟨v1, W1, hrun, r1, r2, _⟩ := run_append_own (P := Try.prog) W B 108 108 117 i0 _ 3 32 Try.underlying108 hi0 hz0 hz1 hz2 rfl (by decide) v l.length (keyCs vs) hown ⟨Gs, 0, none⟩ 1 1 [.int .u32 (t : Int), .int .u16 (gn : Int), .slice (some ⟨Gc, 0, none⟩) kn (kn + 3)] rfl (row_at hcb) (by simp [Value.oneCell']) (by have := H2.out; simp only [maxLen]; omega) (by have := H2.out; omega) (Nat.le_trans HR.out.low hb.size)
    refine .inl ⟨v1, W1, ?_, ⟨_, (show CpyR w.heap.size kn key (.slice (some ⟨Gc, 0, none⟩) kn (kn + 3)) W from ⟨Gc, rfl, hG1, hG2⟩).fr (Fr.grown r2) (fun k hk => VL.out k hk), r1⟩, (Fr.grown r2).imp fun k hk => ⟨rfl, hk⟩⟩
    unfold execOp
    simp only [resolve, invoke, builtin, Sem.run_bind, Sem.run_pure, Result.andThen_ok, List.map_toArray, List.map_cons, List.map_nil, hs, hx, hrun]
  · refine ⟨rfl, IsR.monoF _ _, fun a W hA hb hd => Takes.to5 (takes_plain rfl (yields_value _ ?_ rfl)) _⟩
    have h17 : a.tmps[17]?.getD undef = .pointer (some ⟨g, 0, none⟩) := (eval_get a 17).trans (hd 0 (by simp) _ rfl)
    go_simp
  · refine ⟨rfl, IsR.monoF _ _, fun a W hA hb hd => Takes.to5 (takes_plain rfl (yields_value _ ?_ rfl)) _⟩
    have h29 : a.tmps[29]?.getD undef = .pointer (some ⟨g, 0, none⟩) := (eval_get a 29).trans (hd 12 (by simp) _ rfl)
    go_simp
  intro vs2 w2 hR hb
  obtain ⟨u, hcu, hrow⟩ : (∃ u, CpyR w.heap.size kn key u w2 ∧ w2.ownsRow B 117 3 (vs2 28) (l.length + 1) (keyCs vs ++ [.int .u32 (t : Int), .int .u16 (gn : Int), u])) := hR 11 _ rfl
  have e17 : vs2 17 = .pointer (some ⟨g, 0, none⟩) := hR 0 _ rfl
  have e18 : vs2 18 = .pointer (some ⟨g, 0, none⟩) := hR 1 _ rfl
  have e19 : vs2 19 = .pointer (some ⟨g, 0, none⟩) := hR 2 _ rfl
  have e20 : vs2 20 = .pointer (some ⟨g, 0, none⟩) := hR 3 _ rfl
  have e21 : vs2 21 = v := hR 4 _ rfl
  have e22 : vs2 22 = .int .u32 (t : Int) := hR 5 _ rfl
  have e23 : vs2 23 = .int .u16 (gn : Int) := hR 6 _ rfl
  have e24 : vs2 24 = .slice kA kn kc := hR 7 _ rfl
  have e29 : vs2 29 = .pointer (some ⟨g, 0, none⟩) := hR 12 _ rfl
  have e30 : vs2 30 = .pointer (some ⟨g, 0, none⟩) := hR 13 _ rfl
  simp only [List.map_cons, List.map_nil, List.foldl_cons, List.foldl_nil, List.length_cons, List.length_nil, List.drop_succ_cons, List.drop_zero, Act.put, List.setIfInBounds_toArray, List.set_cons_zero, List.set_cons_succ, e17, e18, e19, e20, e21, e22, e23, e24, e29, e30]
  have FR : Hid (Fr w w2 (fun k => v.ownBlock = some k)) := Lib.hid (hb.imp fun k ⟨j, _, hj⟩ => hj)
  have CU := Lib.hid hcu
  have RW := Lib.hid hrow
  clear hR hb hcu hrow e17 e18 e19 e20 e21 e22 e23 e24 e29 e30
  generalize vs2 25 = q25 at *
  generalize vs2 26 = q26 at *
  generalize vs2 27 = q27 at *
  generalize vs2 28 = q28 at *
  have G2 := Lib.hid (HR.out.box.fr FR.out NG.out)
  have hc : w2.cell? ⟨g, 0, none⟩ = some v := G2.out.cell (k := 0) rfl
  have hf := G2.out.free 0
  obtain ⟨A7, c7, rfl⟩ := row_shape RW.out
  obtain ⟨Av, cv, rfl⟩ := row_shape HR.out.own
  go_wp2_with fail
  go_ret
  have hgc := grown_cell w2 g 0 (.slice A7 (l.length + 1) c7)
  have hfg := Fr.grown hgc
  have nq : ∀ k, (Value.slice A7 (l.length + 1) c7).ownBlock = some k → ¬ (some g = some k) := fun k hk e => by
    injection e with e
    subst e
    exact row_ne RW.out G2.out (by decide) hk
  have hvals : RgV w2 B vs l := HR.out.vals.imp fun z k hz => hz.fr FR.out (row_own_ne HR.out.own hz (by decide))
  obtain ⟨Gc, rfl, hG1, hG2⟩ := CU.out
  have fvals : ∀ z k, OwB w2 B z k → OwB (w2.setCell ⟨g, 0, none⟩ (.slice A7 (l.length + 1) c7)) B z k := fun z k hz => hz.fr hfg (fun q hq e => by
    injection e with e
    subst e
    exact own_ne' (by decide) G2.out hz hq)
  refine ⟨_, .slice (some ⟨Gc, 0, none⟩) kn (kn + 3), rfl, ⟨G2.out.set 0 _, ?_, ?_, ?_, ?_⟩, ?_, ?_⟩
  · rw [keyCs_snoc, List.length_append, List.length_singleton]
    exact row_fr RW.out hfg nq
  · exact RgV.snoc (fvals _ _ (hG2.lower HR.out.low)) (hvals.imp fvals)
  · exact Nat.le_trans HR.out.low (Nat.le_trans FR.out.size (by simp))
  · intro p hp
    rcases List.mem_append.1 hp with hp | hp
    · exact HR.out.ne p hp
    · rw [List.mem_singleton] at hp
      subst hp
      exact HK.out
  · exact hG2.fr hfg (fun q hq e => by
      injection e with e
      subst e
      exact own_ne' (by decide) G2.out hG2 hq)
  · exact (FR.out.imp fun k hk => .inr hk).tr (hfg.imp fun k hk => .inl (by injection hk with hk; exact hk.symm))
theorem RgE.fr {w w' : World} {B g m : Nat} {vs : List ((Nat × Nat) × Value)} {l : RgL} {F : Nat → Prop} (h : RgE w B g m vs l) (hf : Fr w w' F) (hg : ¬ F g) (hm : ¬ F m) (hv : ∀ p ∈ vs, ∀ q, p.2.ownBlock = some q → ¬ F q) : RgE w' B g m vs l := by
  refine ⟨(hf.block g (lt_of_block h.box) hg).trans h.box, h.low, h.map.same (hf.block m h.map.lt hm), ?_, h.ne⟩
  have hq := h.vals
  clear h
  induction vs generalizing l with
  | nil => cases l with
    | nil => trivial
    | cons q qs => exact hq.elim
  | cons p ps ih => cases l with
    | nil => exact hq.elim
    | cons q qs => exact ⟨⟨hq.1.1, hq.1.2.fr hf (hv p (by simp))⟩, ih (fun x hx => hv x (by simp [hx])) hq.2⟩
theorem RkB.frN {w w' : World} {B g : Nat} {v : Value} {vs : List ((Nat × Nat) × Value)} {l : RgL} {F : Nat → Prop} (h : RkB w B g v vs l) (hf : Fr w w' F) (hg : ¬ F g) (hv0 : ∀ q, v.ownBlock = some q → ¬ F q) (hv : ∀ p ∈ vs, ∀ q, p.2.ownBlock = some q → ¬ F q) : RkB w' B g v vs l := by
  refine ⟨h.box.fr hf hg, row_fr h.own hf hv0, ?_, Nat.le_trans h.low hf.size, h.ne⟩
  have hq := h.vals
  clear h
  induction vs generalizing l with
  | nil => cases l with
    | nil => trivial
    | cons q qs => exact hq.elim
  | cons p ps ih => cases l with
    | nil => exact hq.elim
    | cons q qs => exact ⟨⟨hq.1.1, hq.1.2.fr hf (hv p (by simp))⟩, ih (fun x hx => hv x (by simp [hx])) hq.2⟩
theorem ringAdd_anyE (B g m t gn kn kc : Nat) (kA : Option Addr) (key : List Nat) (vs : List ((Nat × Nat) × Value)) (l : RgL) (w : World) (h : RgE w B g m vs l) (ht : t < 4294967296) (hg : gn < 65536) (ik : IsB w kA kn kc key) (X : Nat) (hX : X < w.heap.size) (hN : NoX vs X) :
    Calls Try.prog 50 #[.pointer (some ⟨g, 0, none⟩), .int .u32 (t : Int), .int .u16 (gn : Int), .slice kA kn kc] w fun e w' => ∃ vs', e = .returned (.int .i64 ((addP (t, gn) key l).1 : Int)) ∧ RgE w' B g m vs' (addP (t, gn) key l).2 ∧ NoX vs' X ∧ w.grownBy w' (some m) := by
  have lk := ik.len
  unfold addP
  by_cases hk : key.length = 16 ∨ key.length = 32
  · rw [if_pos hk]
    cases hs : getR (t, gn) l with
    | some k =>
      rw [Option.isSome_some, if_pos rfl]
      refine (ringAdd_no B g m t gn kn kc 8 kA l w h.rgB ht hg (.inr ⟨rfl, by omega, by rw [hs]; rfl⟩)).mono ?_
      rintro e w' ⟨rfl, hb⟩
      exact ⟨vs, rfl, h.fr (Fr.of hb (fun _ => False)) id id (fun _ _ _ _ => id), hN, grown_of hb _⟩
    | none =>
      rw [Option.isSome_none, if_neg Bool.false_ne_true]
      refine (ringAdd_yesE B g m t gn kn kc kA key vs l w h ht hg ik hk hs).mono ?_
      rintro e w' ⟨u, rfl, h1, h2, h3⟩
      exact ⟨_, rfl, h1, hN.snoc (fun q hq => (h2.lt q hq).1) hX, h3⟩
  · rw [if_neg hk]
    refine (ringAdd_no B g m t gn kn kc 2 kA l w h.rgB ht hg (.inl ⟨rfl, by omega⟩)).mono ?_
    rintro e w' ⟨rfl, hb⟩
    exact ⟨vs, rfl, h.fr (Fr.of hb (fun _ => False)) id id (fun _ _ _ _ => id), hN, grown_of hb _⟩
theorem rkAdd_anyE (B g t gn : Nat) (v : Value) (vs : List ((Nat × Nat) × Value)) (l : RgL) (kA : Option Addr) (kn kc : Nat) (key : List Nat) (w : World) (h : RkB w B g v vs l) (ht : t < 4294967296) (hg : gn < 65536) (h200 : l.length ≤ 1000) (ik : IsB w kA kn kc key) (hkA : ∀ x, kA = some x → v.ownBlock ≠ some x.block) (X : Nat) (hX : X < w.heap.size) (hN : NoX vs X) :
    Calls Try.prog 51 #[.pointer (some ⟨g, 0, none⟩), .int .u32 (t : Int), .int .u16 (gn : Int), .slice kA kn kc] w fun e w' => ∃ v' vs', e = .returned (.int .i64 ((addP (t, gn) key l).1 : Int)) ∧ RkB w' B g v' vs' (addP (t, gn) key l).2 ∧ NoX vs' X ∧ Fr w w' (fun k => k = g ∨ v.ownBlock = some k) := by
  have lk := ik.len
  unfold addP
  by_cases hk : key.length = 16 ∨ key.length = 32
  · rw [if_pos hk]
    cases hs : getR (t, gn) l with
    | some k =>
      rw [Option.isSome_some, if_pos rfl]
      refine (rkAdd_twice B g t gn v vs l kA kn kc w h ht hg h200 (by omega) hs).mono ?_
      rintro e w' ⟨rfl, rfl⟩
      exact ⟨v, vs, rfl, h, hN, Fr.of (Below.refl _ _) _⟩
    | none =>
      rw [Option.isSome_none, if_neg Bool.false_ne_true]
      refine (rkAdd_yesE B g t gn v vs l kA kn kc key w h ht hg h200 ik hkA hk hs).mono ?_
      rintro e w' ⟨v', u, rfl, h1, h3, h2⟩
      exact ⟨v', _, rfl, h1, hN.snoc (fun q hq => (h3.lt q hq).1) hX, h2⟩
  · rw [if_neg hk]
    refine (rkAdd_arg g _ _ kA kn kc w (by omega)).mono ?_
    rintro e w' ⟨rfl, rfl⟩
    exact ⟨v, vs, rfl, h, hN, Fr.of (Below.refl _ _) _⟩
end Go.Proofs.Ytmeakfocppooiaa
namespace Go.Proofs.Ytmeakfocppooiaa
open Go.RowKit Go.ChangeShapes Go.WideShapes
set_option linter.unusedVariables false
/-- a call of a ring -/
structure OArg where
  kd : Int
  t : Nat
  g : Nat
  a : Option Addr
  n : Nat
  c : Nat
  k : List Nat
def ocv (q : OArg) : Array Value := #[.int .i64 q.kd, .int .u32 (q.t : Int), .int .u16 (q.g : Int), .slice q.a q.n q.c]
structure OcB (w : World) (A : Option Addr) (n c : Nat) (qs : List OArg) : Prop where
  len : qs.length = n
  cap : n ≤ c
  max : c ≤ maxLen
  cel : ∀ (i : Nat) (q : OArg), qs[i]? = some q → ∃ x, A = some x ∧ x.block < w.heap.size ∧ (∀ (j : Nat) (u : Value), (ocv q)[j]? = some u → w.cell? (x.add (i * 4 + j)) = some u) ∧ (-9223372036854775808 ≤ q.kd ∧ q.kd ≤ 9223372036854775807) ∧ q.t < 4294967296 ∧ q.g < 65536 ∧ IsB w q.a q.n q.c q.k
section
variable {H : Type} {enc : TypeId × Value → H} {W : World}
theorem list4o {α : Type} {cs : List α} (h : cs.length = 4) : ∃ c0 c1 c2 c3, cs = [c0, c1, c2, c3] := by
  match cs, h with
  | [c0, c1, c2, c3], _ => exact ⟨c0, c1, c2, c3, rfl⟩
set_option maxRecDepth 100000 in
theorem oper_trod {fuel : Nat} {cs : List Value} {x : DataW H × List MemPlace} (h : DataW.trod enc Try.prog W 0 (fun _ => true) true fuel 112 cs = some x) (hlt : ∀ q ∈ x.2, q.block < W.heap.size) :
    ∃ q : OArg, cs = (ocv q).toList ∧ (-9223372036854775808 ≤ q.kd ∧ q.kd ≤ 9223372036854775807) ∧ q.t < 4294967296 ∧ q.g < 65536 ∧ IsB W q.a q.n q.c q.k := by
  obtain ⟨y0, y1, y2, y3, n, hx, hl, h0, h1, h2, h3⟩ := trod_struct4 Try.underlying112 h
  have c9 : Try.prog.cellsOf 112 = 4 := by kernel_rfl
  have ci : Try.prog.cellsOf 3 = 1 := by kernel_rfl
  have cu : Try.prog.cellsOf 29 = 1 := by kernel_rfl
  have ch : Try.prog.cellsOf 31 = 1 := by kernel_rfl
  have cb : Try.prog.cellsOf 28 = 1 := by kernel_rfl
  have c8 : Try.prog.cellsOf 5 = 1 := by kernel_rfl
  have hp : x.2 = y0.2 ++ (y1.2 ++ (y2.2 ++ y3.2)) := by simpa using congrArg (·.2) hx
  rw [c9] at hl
  obtain ⟨v0, v1, v2, v3, rfl⟩ := list4o hl
  simp only [ci, cu, ch, cb] at h0 h1 h2 h3
  obtain ⟨z, e0, w0⟩ := int_trod Try.underlying3 h0
  obtain ⟨t, e1, w1⟩ := int_trod Try.underlying29 h1
  obtain ⟨g, e2, w2⟩ := int_trod Try.underlying31 h2
  obtain ⟨A, kn, kc, k, e3, i3⟩ := isB_trod Try.underlying28 Try.underlying5 c8 h3 (fun q hq => hlt q (by rw [hp]; simp [hq]))
  obtain ⟨t', rfl, b1⟩ := nat_int (m := 4294967296) w1 rfl (by decide)
  obtain ⟨g', rfl, b2⟩ := nat_int (m := 65536) w2 rfl (by decide)
  simp at e0 e1 e2 e3
  subst e0 e1 e2 e3
  simp only [Lit.wf, Bool.and_eq_true, decide_eq_true_eq] at w0
  have m1 : IntKind.i64.min = -9223372036854775808 ∧ IntKind.i64.max = 9223372036854775807 := ⟨rfl, rfl⟩
  exact ⟨⟨z, t', g', A, kn, kc, k⟩, rfl, by show _ ≤ z ∧ z ≤ _; omega, b1, b2, i3⟩
set_option maxRecDepth 100000 in
theorem open_opers {base : Nat} {v : Value} {d : DataW H} {p : List MemPlace} (hk : Value.okWide Try.prog W .any base 107 v)
    (h : DataW.Trod enc Try.prog W 0 (fun _ => true) true 107 v d p) (hlt : ∀ x ∈ p, x.block < W.heap.size) : ∃ A n c qs, v = .slice A n c ∧ OcB W A n c qs := by
  obtain ⟨A, n, c, rfl⟩ := okWide_slice Try.underlying107 hk
  have c9 : Try.prog.cellsOf 112 = 4 := by kernel_rfl
  obtain ⟨fuel, hf⟩ := h
  rcases Go.Deep.open_slice Try.underlying107 hf with ⟨hcs, hx⟩ | ⟨a, len, cap, m, nn, D, Pl, hcs, hb, hl, hm, hmm, hx, hi⟩
  · simp [Value.cells] at hcs
    obtain ⟨rfl, rfl, rfl⟩ := hcs
    exact ⟨none, 0, 0, [], rfl, rfl, Nat.le_refl _, Nat.zero_le _, fun i q hq => by simp at hq⟩
  · simp [Value.cells] at hcs
    obtain ⟨rfl, rfl, rfl⟩ := hcs
    rw [c9] at hi hx
    have hmc : m = c := by simpa using hmm
    subst hmc
    have hp : p = MemPlace.row a (m * 4) ++ (List.range m).flatMap Pl := by simpa using congrArg (·.2) hx
    have hkey : ∀ i, i < n → ∃ q : OArg, (∀ (j : Nat) (u : Value), (ocv q)[j]? = some u → W.cell? (a.add (i * 4 + j)) = some u) ∧ (-9223372036854775808 ≤ q.kd ∧ q.kd ≤ 9223372036854775807) ∧ q.t < 4294967296 ∧ q.g < 65536 ∧ IsB W q.a q.n q.c q.k := fun i hin => by
      obtain ⟨cs', hc, ht⟩ := hi i (by omega)
      obtain ⟨_, hcl, hat⟩ := World.cells?_some hc
      obtain ⟨q, rfl, h0, h1, h2, h3⟩ := oper_trod ht (fun x hx => hlt x (by
        rw [hp]
        exact List.mem_append_right _ (List.mem_flatMap.2 ⟨i, List.mem_range.2 (by omega), hx⟩)))
      refine ⟨q, fun j u hu => ?_, h0, h1, h2, h3⟩
      have hj : j < 4 := (Array.getElem?_eq_some_iff.1 hu).1
      have a0 := hat j (by simpa [ocv] using hj)
      rw [Go.Deep.add_add] at a0
      rw [a0]
      simpa using hu
    obtain ⟨ks, hkl, hks⟩ := list_ofA n hkey
    refine ⟨some a, n, m, ks, rfl, hkl, hl, hm, fun i q hq => ?_⟩
    have hin : i < n := by rw [← hkl]; exact (List.getElem?_eq_some_iff.1 hq).1
    refine ⟨a, rfl, ?_, hks i q hq⟩
    have h1 : MemPlace.cell a.block a.off ∈ MemPlace.row a (m * 4) := List.mem_map.2 ⟨0, List.mem_range.2 (by omega), by simp⟩
    exact hlt _ (by rw [hp]; exact List.mem_append_left _ h1)
end
end Go.Proofs.Ytmeakfocppooiaa
