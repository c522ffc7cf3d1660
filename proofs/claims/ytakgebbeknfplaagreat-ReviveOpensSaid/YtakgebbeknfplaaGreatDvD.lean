/-
  THE DOCUMENT's DEVICE: made, written by somebody else, read.
-/
import Derived.Test.YtakgebbeknfplaaGreatDvB
namespace Go.Proofs.YtakgebbeknfplaaGreat
open Go.RowKit Go.ChangeShapes Go.WideShapes
set_option linter.unusedVariables false
set_option linter.unusedSimpArgs false

theorem own_ltX {w : World} {B n s : Nat} {e : TypeId} {v : Value} {xs : List Value} (h : w.ownsRow B e s v n xs) : ∀ k, v.ownBlock = some k → k < w.heap.size := fun k hk => by
  rcases h.2 with ⟨rfl, _⟩ | ⟨g', cap, cur, rfl, _, hh, _⟩
  · cases hk
  · have : g' = k := by injection hk
    subst this
    exact (Array.getElem?_eq_some_iff.1 hh).1
theorem cb_ne {w : World} {g b : Nat} {T T' : TypeId} {cs cs' : Array Value} (h : CbB w g T cs) (h' : CbB w b T' cs') (hT : T ≠ T') : g ≠ b := fun e => by
  unfold CbB at h h'
  rw [e, h'] at h
  injection h with h
  injection h with _ h
  exact hT h.symm
section
variable {w w2 : World} {B g : Nat} {v1 v2 : Value} {b1 b2 : List Nat} {st cut : Int} {down : Bool} {L : List Nat}
theorem RdB.lt1 (h : RdB w B g v1 v2 b1 b2 st cut down L) {b : Nat} (hb : b ∈ b1) : b < w.heap.size := by
  obtain ⟨i, hi⟩ := List.getElem?_of_mem hb
  exact (h.at1 i b hi).2.lt
theorem RdB.lt2 (h : RdB w B g v1 v2 b1 b2 st cut down L) {b : Nat} (hb : b ∈ b2) : b < w.heap.size := by
  obtain ⟨i, hi⟩ := List.getElem?_of_mem hb
  obtain ⟨_, l, hl, _⟩ := h.at2 i b hi
  exact hl.lt
theorem RdB.push1 (h : RdB w B g v1 v2 b1 b2 st cut down L) (hB : B ≤ w.heap.size) (hf : Fr w w2 (fun k => v1.ownBlock = some k)) {b : Nat} (hb : Bk w2 b 5 (blkL L b1.length)) (hlb : w.heap.size ≤ b) {v' : Value}
    (ho : w2.ownsRow B 22 1 v' (b1.length + 1) ((b1.map fun b => .slice (some ⟨b, 0, none⟩) 256 256) ++ [.slice (some ⟨b, 0, none⟩) 256 256])) (hv : v'.ownBlock = v1.ownBlock ∨ ∃ k, v'.ownBlock = some k ∧ w.heap.size ≤ k) :
    RdB (w2.setCell ⟨g, 0, none⟩ v') B g v' v2 (b1 ++ [b]) b2 st cut down L := by
  have f2 := fr_cell w2 g 0 v'
  have n1 : v1.ownBlock ≠ some g := row_ne h.own1 h.box (by decide)
  have hbox := h.box.fr hf n1
  have ng : ∀ {q : Nat} {l : List Nat}, Bk w q 5 l → q ≠ g := fun {q l} hq => Ne.symm (cb_ne h.box (show CbB w q _ _ from hq) (by decide))
  have nv : ∀ {q : Nat} {l : List Nat}, Bk w q 5 l → v1.ownBlock ≠ some q := fun {q l} hq => row_ne h.own1 (show CbB w q _ _ from hq) (by decide)
  have kp : ∀ {q : Nat} {l : List Nat}, Bk w q 5 l → Bk (w2.setCell ⟨g, 0, none⟩ v') q 5 l := fun {q l} hq => (hq.fr hf (nv hq)).fr f2 (ng hq)
  refine ⟨hbox.set 0 _, ?_, ?_, ?_, ?_, ?_, ?_, h.low⟩
  · rw [List.map_append, List.length_append]
    exact row_fr ho f2 (fun k hk e => row_ne ho hbox (by decide) (by rw [hk, e]))
  · have o2 := row_fr h.own2 hf (fun k hk e => h.ne12 k e hk)
    exact row_fr o2 f2 (fun k hk e => row_ne o2 hbox (by decide) (by rw [hk, e]))
  · intro k hk h2
    rcases hv with e | ⟨q, e, hq⟩
    · exact h.ne12 k (by rw [← e, hk]) h2
    · rw [hk] at e
      injection e with e
      subst e
      have := own_ltX h.own2 k h2
      omega
  · intro i q hi
    rcases Nat.lt_or_ge i b1.length with hl | hl
    · rw [List.getElem?_append_left hl] at hi
      obtain ⟨k1, k2⟩ := h.at1 i q hi
      exact ⟨k1, kp k2⟩
    · rw [List.getElem?_append_right hl] at hi
      obtain ⟨hj, hq⟩ := List.getElem?_eq_some_iff.1 hi
      simp at hj hq
      subst hq
      obtain rfl : i = b1.length := by omega
      exact ⟨by omega, hb.fr f2 (by have := h.box.lt; omega)⟩
  · intro i q hi
    obtain ⟨k1, l, k2, k3⟩ := h.at2 i q hi
    exact ⟨k1, l, kp k2, k3⟩
  · have hn := h.nd
    rw [List.nodup_append] at hn ⊢
    obtain ⟨p1, p2, p3⟩ := hn
    refine ⟨?_, p2, ?_⟩
    · rw [List.nodup_append]
      refine ⟨p1, by simp, fun x hx y hy => ?_⟩
      simp at hy
      have := h.lt1 hx
      omega
    · intro x hx y hy
      rcases List.mem_append.1 hx with hx | hx
      · exact p3 x hx y hy
      · simp at hx
        have := h.lt2 hy
        omega
theorem RdB.push2 (h : RdB w B g v1 v2 b1 b2 st cut down L) (hB : B ≤ w.heap.size) (hf : Fr w w2 (fun k => v2.ownBlock = some k)) {b : Nat} {lb : List Nat} (hb : Bk w2 b 5 lb) (hbl : lb.length = 256) (hlb : w.heap.size ≤ b) {v' : Value}
    (ho : w2.ownsRow B 22 1 v' (b2.length + 1) ((b2.map fun b => .slice (some ⟨b, 0, none⟩) 256 256) ++ [.slice (some ⟨b, 0, none⟩) 256 256])) (hv : v'.ownBlock = v2.ownBlock ∨ ∃ k, v'.ownBlock = some k ∧ w.heap.size ≤ k) :
    RdB (w2.setCell ⟨g, 1, none⟩ v') B g v1 v' b1 (b2 ++ [b]) st cut down L := by
  have f2 := fr_cell w2 g 1 v'
  have n1 : v2.ownBlock ≠ some g := row_ne h.own2 h.box (by decide)
  have hbox := h.box.fr hf n1
  have ng : ∀ {q : Nat} {l : List Nat}, Bk w q 5 l → q ≠ g := fun {q l} hq => Ne.symm (cb_ne h.box (show CbB w q _ _ from hq) (by decide))
  have nv : ∀ {q : Nat} {l : List Nat}, Bk w q 5 l → v2.ownBlock ≠ some q := fun {q l} hq => row_ne h.own2 (show CbB w q _ _ from hq) (by decide)
  have kp : ∀ {q : Nat} {l : List Nat}, Bk w q 5 l → Bk (w2.setCell ⟨g, 1, none⟩ v') q 5 l := fun {q l} hq => (hq.fr hf (nv hq)).fr f2 (ng hq)
  refine ⟨hbox.set 1 _, ?_, ?_, ?_, ?_, ?_, ?_, h.low⟩
  · have o1 := row_fr h.own1 hf (fun k hk e => h.ne12 k hk e)
    exact row_fr o1 f2 (fun k hk e => row_ne o1 hbox (by decide) (by rw [hk, e]))
  · rw [List.map_append, List.length_append]
    exact row_fr ho f2 (fun k hk e => row_ne ho hbox (by decide) (by rw [hk, e]))
  · intro k hk h2
    rcases hv with e | ⟨q, e, hq⟩
    · exact h.ne12 k hk (by rw [← e, h2])
    · rw [h2] at e
      injection e with e
      subst e
      have := own_ltX h.own1 k hk
      omega
  · intro i q hi
    obtain ⟨k1, k2⟩ := h.at1 i q hi
    exact ⟨k1, kp k2⟩
  · intro i q hi
    rcases Nat.lt_or_ge i b2.length with hl | hl
    · rw [List.getElem?_append_left hl] at hi
      obtain ⟨k1, l, k2, k3⟩ := h.at2 i q hi
      exact ⟨k1, l, kp k2, k3⟩
    · rw [List.getElem?_append_right hl] at hi
      obtain ⟨hj, hq⟩ := List.getElem?_eq_some_iff.1 hi
      simp at hj hq
      subst hq
      exact ⟨by omega, lb, hb.fr f2 (by have := h.box.lt; omega), hbl⟩
  · have hn := h.nd
    rw [List.nodup_append] at hn ⊢
    obtain ⟨p1, p2, p3⟩ := hn
    refine ⟨p1, ?_, ?_⟩
    · rw [List.nodup_append]
      refine ⟨p2, by simp, fun x hx y hy => ?_⟩
      simp at hy
      have := h.lt2 hx
      omega
    · intro x hx y hy
      rcases List.mem_append.1 hy with hy | hy
      · exact p3 x hx y hy
      · simp at hy
        have := h.lt1 hx
        omega
end
def BnewR (S : Nat) (v : Value) (W : World) : Prop := ∃ b, v = .slice (some ⟨b, 0, none⟩) 256 256 ∧ S ≤ b ∧ Bk W b 5 (zeros 256)
theorem BnewR.fr {S : Nat} {v : Value} {W W1 : World} {F : Nat → Prop} (h : BnewR S v W) (hf : Fr W W1 F) (hF : ∀ k, F k → k < S) : BnewR S v W1 := by
  obtain ⟨b, h1, h2, h3⟩ := h
  exact ⟨b, h1, h2, h3.fr hf (fun e => by have := hF b e; omega)⟩
def OneSl (S : Nat) (v : Value) (W : World) : Prop := ∃ G u, v = .slice (some ⟨G, 0, none⟩) 1 1 ∧ CbB W G 22 #[u] ∧ S ≤ G ∧ BnewR S u W
theorem infoSlB : (Tryz.prog.info? 22).map (fun i => (i.zero, i.size, i.bytes)) = some (some (.slice none 0 0), 1, 24) := by kernel_rfl
def AppR (B S : Nat) (v1 : Value) (bs : List Nat) (v : Value) (W : World) : Prop :=
  ∃ b, S ≤ b ∧ Bk W b 5 (zeros 256) ∧ W.ownsRow B 22 1 v (bs.length + 1) ((bs.map fun b => .slice (some ⟨b, 0, none⟩) 256 256) ++ [.slice (some ⟨b, 0, none⟩) 256 256]) ∧ (v.ownBlock = v1.ownBlock ∨ ∃ k, v.ownBlock = some k ∧ S ≤ k)
theorem zero_blk {i : Nat} (hi : i < 8) : blkL (zeros 2048) i = zeros 256 := by
  unfold blkL zeros
  rw [List.drop_replicate, List.take_replicate, Nat.min_eq_left (by omega)]
set_option maxRecDepth 100000 in
set_option maxHeartbeats 4000000 in
theorem rdNew_any (w : World) : Calls Tryz.prog 18 #[.int .i64 8] w fun e w' => ∃ g v1 v2 b1 b2, e = .returned (.pointer (some ⟨g, 0, none⟩)) ∧ RdB w' w.heap.size g v1 v2 b1 b2 0 (-1) false (zeros 2048) ∧ b1.length = 8 ∧ b2.length = 8 ∧ Below w.heap.size w w' := by
  go_enter Tryz.func18, Tryz.ntmps18
  go_wp2_with fail
  go_loopw [4] (fun z wr => ∃ i : Nat, i ≤ 8 ∧ z = .int .i64 (i : Int) ∧ ∃ v1 v2 b1 b2, RdB wr w.heap.size w.heap.size v1 v2 b1 b2 0 (-1) false (zeros 2048) ∧ b1.length = i ∧ b2.length = i ∧ Below w.heap.size w wr) (fun z _ => 8 - (intOf z).toNat)
  case atStart =>
    refine ⟨0, by decide, rfl, .slice none 0 0, .slice none 0 0, [], [], ⟨CbB.new _ _ _, World.ownsRow_nil _ _ _ _, World.ownsRow_nil _ _ _ _, fun k hk => (by cases hk), fun i b hi => (by simp at hi), fun i b hi => (by simp at hi), by simp, Nat.le_refl _⟩, rfl, rfl, (Below.refl _ _).alloc (Nat.le_refl _) _⟩
  case round =>
    obtain ⟨i, hi, rfl, v1, v2, b1, b2, hr, hl1, hl2, hb⟩ := hrel
    by_cases hlt : i < 8
    · have hlti : (i : Int) < 8 := by omega
      have HR := Lib.hid hr
      have HB := Lib.hid hb
      have L1 := Lib.hid hl1
      have L2 := Lib.hid hl2
      have HL := Lib.hid hlt
      clear hr hb hlt hi hl1 hl2
      go_wp2_with fail
      · skip
        refine wp_wide5 (fun i k => i = 4 ∧ v1.ownBlock = some k) [⟨11, IsR (.pointer (some ⟨w.heap.size, 0, none⟩)), [], false⟩, ⟨12, IsR (v1), [0], false⟩, ⟨13, BnewR wr.heap.size, [], false⟩, ⟨14, OneSl wr.heap.size, [2], false⟩, ⟨15, AppR w.heap.size wr.heap.size v1 b1, [1, 3], false⟩, ⟨16, IsR (.pointer (some ⟨w.heap.size, 0, none⟩)), [], false⟩] (by kernel_rfl) (by kernel_rfl) rfl rfl rfl ⟨?_, ?_, ?_, ?_, ?_, ?_, trivial⟩ ?_
        · refine ⟨rfl, IsR.monoF _ _, fun a W hA hb hd => Takes.to5 (takes_plain rfl (yields_value _ ?_ rfl)) _⟩
          have h3 : a.tmps[3]?.getD undef = .pointer (some ⟨w.heap.size, 0, none⟩) := (eval_get a 3).trans ((hA.eval (by simp)).trans rfl)
          go_simp
        · refine ⟨rfl, IsR.monoF _ _, fun a W hA hb hd => Takes.to5 (takes_plain rfl (yields_value _ ?_ rfl)) _⟩
          have h11 : a.tmps[11]?.getD undef = .pointer (some ⟨w.heap.size, 0, none⟩) := (eval_get a 11).trans (hd 0 (by simp) _ rfl)
          have hc : W.cell? ⟨w.heap.size, 0, none⟩ = some v1 := (HR.out.box.fr hb (fun ⟨j, _, _, hj⟩ => row_ne HR.out.own1 HR.out.box (by decide) hj)).cell (k := 0) rfl
          obtain ⟨A, cp, hv⟩ := row_shape HR.out.own1
          subst hv
          go_simp
        · refine ⟨rfl, fun z W W1 h1 hf => h1.fr hf (fun k ⟨j, _, _, hj⟩ => own_ltX HR.out.own1 k hj), fun a W hA hb hd => takes5_plain rfl ?_⟩
          refine .inl ⟨.slice (some ⟨W.heap.size, 0, none⟩) 256 256, W.alloc (.cells (bts (zeros 256)) 5), ?_, ⟨_, rfl, hb.size, Bk.new _ _ _⟩, Fr.of ((Below.refl _ _).alloc (Nat.le_refl _) _) _⟩
          have hmk := make_u8 256 256 (Nat.le_refl _) (by decide) W
          have hx : a.eval (.const (.int .i64 256)) = .int .i64 ((256 : Nat) : Int) := rfl
          unfold execOp
          simp only [hx, hmk, Sem.run_bind, Result.andThen_ok, Sem.run_pure]
        · refine ⟨rfl, fun z W W1 ⟨G1, u, h1, h2, h3, h4⟩ hf => ⟨G1, u, h1, h2.fr hf (fun ⟨j, _, _, hj⟩ => by have := own_ltX HR.out.own1 _ hj; omega), h3, h4.fr hf (fun k ⟨j, _, _, hj⟩ => own_ltX HR.out.own1 k hj)⟩, fun a W hA hb hd => takes5_plain rfl ?_⟩
          obtain ⟨b, hu, hbs, hbk⟩ := hd 2 (by simp) _ rfl
          have h13 : a.tmps[13]?.getD undef = .slice (some ⟨b, 0, none⟩) 256 256 := (eval_get a 13).trans hu
          refine .inl ⟨.slice (some ⟨W.heap.size, 0, none⟩) 1 1, W.alloc (.cells #[.slice (some ⟨b, 0, none⟩) 256 256] 22), ?_, ⟨_, _, rfl, CbB.new _ _ _, hb.size, b, rfl, hbs, hbk.alloc _⟩, Fr.of ((Below.refl _ _).alloc (Nat.le_refl _) _) _⟩
          go_simp
        · refine ⟨rfl, fun z W W1 ⟨b, h1, h2, h3, h4⟩ hf => ⟨b, h1, h2.fr hf (fun ⟨j, _, _, hj⟩ => by have := own_ltX HR.out.own1 _ hj; omega), row_fr h3 hf (fun k hk ⟨j, hj, hj2, _⟩ => hj hj2), h4⟩, fun a W hA hb hd => takes5_plain rfl ?_⟩
          have hs : a.eval (.tmp 12) = v1 := hd 1 (by simp) _ rfl
          obtain ⟨Gs, u, he, hcb, hGs, b, rfl, hbs, hbk⟩ := hd 3 (by simp) _ rfl
          have hx : a.eval (.tmp 14) = .slice (some ⟨Gs, 0, none⟩) 1 1 := he
          have hown := row_fr HR.out.own1 hb (fun k hk ⟨j, hj, hj2, _⟩ => hj hj2)
          obtain ⟨i0, hi0, hz0, hz1, hz2⟩ := info_parts infoSlB
          obtain ⟨vq, W1, hrun, r1, r2, _, r4⟩ := run_append_own_at (P := Tryz.prog) W w.heap.size 53 53 22 i0 _ 1 24 Tryz.underlying53 hi0 hz0 hz1 hz2 rfl (by decide) v1 b1.length _ hown ⟨Gs, 0, none⟩ 1 1 [.slice (some ⟨b, 0, none⟩) 256 256] rfl (row_at hcb) (by simp [Value.oneCell']) (by simp only [maxLen]; have := L1.out; have := HL.out; omega) (by have := L1.out; have := HL.out; omega) (Nat.le_trans HB.out.size hb.size)
          refine .inl ⟨vq, W1, ?_, ⟨b, hbs, hbk.fr (Fr.grown r2) (fun e => by have := own_ltX HR.out.own1 _ e; omega), r1, ?_⟩, (Fr.grown r2).imp fun k hk => ⟨rfl, hk⟩⟩
          · unfold execOp
            simp only [resolve, invoke, builtin, Sem.run_bind, Sem.run_pure, Result.andThen_ok, List.map_toArray, List.map_cons, List.map_nil, hs, hx, hrun]
          · rcases r4 with r4 | r4
            · exact .inl r4
            · exact .inr ⟨_, r4, hb.size⟩
        · refine ⟨rfl, IsR.monoF _ _, fun a W hA hb hd => Takes.to5 (takes_plain rfl (yields_value _ ?_ rfl)) _⟩
          have h3 : a.tmps[3]?.getD undef = .pointer (some ⟨w.heap.size, 0, none⟩) := (eval_get a 3).trans ((hA.eval (by simp)).trans rfl)
          go_simp
        intro vs0 wrn hR hb
        obtain ⟨b, hbs, hbk, hrow, hvv⟩ : AppR w.heap.size wr.heap.size v1 b1 (vs0 15) wrn := hR 4 _ rfl
        have e11 : vs0 11 = .pointer (some ⟨w.heap.size, 0, none⟩) := hR 0 _ rfl
        have e12 : vs0 12 = v1 := hR 1 _ rfl
        have e16 : vs0 16 = .pointer (some ⟨w.heap.size, 0, none⟩) := hR 5 _ rfl
        simp only [List.map_cons, List.map_nil, List.foldl_cons, List.foldl_nil, List.length_cons, List.length_nil, List.drop_succ_cons, List.drop_zero, Act.put, List.setIfInBounds_toArray, List.set_cons_zero, List.set_cons_succ, e11, e12, e16]
        have FR : Hid (Fr wr wrn (fun k => v1.ownBlock = some k)) := Lib.hid (hb.imp fun k ⟨j, _, hj⟩ => hj)
        have NW := Lib.hid (HR.out.push1 HB.out.size FR.out (by rw [L1.out, zero_blk (by omega)]; exact hbk) hbs hrow hvv)
        have G2 := Lib.hid (HR.out.box.fr FR.out (row_ne HR.out.own1 HR.out.box (by decide)))
        have BB := Lib.hid (Fr.below FR.out (fun k hk => own_ge9 HR.out.own1 k hk) HB.out HB.out.size)
        obtain ⟨A1, c1, hv1⟩ := row_shape hrow
        generalize vs0 15 = q15 at *
        subst hv1
        have hf := G2.out.free 0
        have hcl := G2.out.cell (k := 0) rfl
        clear hR hb hrow hvv e11 e12 e16
        generalize vs0 13 = q13 at *
        generalize vs0 14 = q14 at *
        go_upto_region 6 with (fail)
        obtain ⟨wm, hwm⟩ : ∃ wm, wrn.setCell ⟨w.heap.size, 0, none⟩ (.slice A1 (b1.length + 1) c1) = wm := ⟨_, rfl⟩
        have BM : Hid (Below w.heap.size w wm) := Lib.hid (by rw [← hwm]; exact Fr.below (fr_cell _ _ _ _) (fun k hk => by omega) BB.out BB.out.size)
        rw [hwm] at NW ⊢
        clear hwm hf hcl G2 FR hbk hbs BB HR HB
        have HB := BM
        clear BM
        refine wp_wide5 (fun i k => i = 4 ∧ v2.ownBlock = some k) [⟨17, IsR (.pointer (some ⟨w.heap.size, 1, none⟩)), [], false⟩, ⟨18, IsR (v2), [0], false⟩, ⟨19, BnewR wm.heap.size, [], false⟩, ⟨20, OneSl wm.heap.size, [2], false⟩, ⟨21, AppR w.heap.size wm.heap.size v2 b2, [1, 3], false⟩, ⟨22, IsR (.pointer (some ⟨w.heap.size, 1, none⟩)), [], false⟩] (by kernel_rfl) (by kernel_rfl) rfl rfl rfl ⟨?_, ?_, ?_, ?_, ?_, ?_, trivial⟩ ?_
        · refine ⟨rfl, IsR.monoF _ _, fun a W hA hb hd => Takes.to5 (takes_plain rfl (yields_value _ ?_ rfl)) _⟩
          have h3 : a.tmps[3]?.getD undef = .pointer (some ⟨w.heap.size, 0, none⟩) := (eval_get a 3).trans ((hA.eval (by simp)).trans rfl)
          go_simp
        · refine ⟨rfl, IsR.monoF _ _, fun a W hA hb hd => Takes.to5 (takes_plain rfl (yields_value _ ?_ rfl)) _⟩
          have h17 : a.tmps[17]?.getD undef = .pointer (some ⟨w.heap.size, 1, none⟩) := (eval_get a 17).trans (hd 0 (by simp) _ rfl)
          have hc : W.cell? ⟨w.heap.size, 1, none⟩ = some v2 := (NW.out.box.fr hb (fun ⟨j, _, _, hj⟩ => row_ne NW.out.own2 NW.out.box (by decide) hj)).cell (k := 1) rfl
          obtain ⟨A, cp, hv⟩ := row_shape NW.out.own2
          subst hv
          go_simp
        · refine ⟨rfl, fun z W W1 h1 hf => h1.fr hf (fun k ⟨j, _, _, hj⟩ => own_ltX NW.out.own2 k hj), fun a W hA hb hd => takes5_plain rfl ?_⟩
          refine .inl ⟨.slice (some ⟨W.heap.size, 0, none⟩) 256 256, W.alloc (.cells (bts (zeros 256)) 5), ?_, ⟨_, rfl, hb.size, Bk.new _ _ _⟩, Fr.of ((Below.refl _ _).alloc (Nat.le_refl _) _) _⟩
          have hmk := make_u8 256 256 (Nat.le_refl _) (by decide) W
          have hx : a.eval (.const (.int .i64 256)) = .int .i64 ((256 : Nat) : Int) := rfl
          unfold execOp
          simp only [hx, hmk, Sem.run_bind, Result.andThen_ok, Sem.run_pure]
        · refine ⟨rfl, fun z W W1 ⟨G1, u, h1, h2, h3, h4⟩ hf => ⟨G1, u, h1, h2.fr hf (fun ⟨j, _, _, hj⟩ => by have := own_ltX NW.out.own2 _ hj; omega), h3, h4.fr hf (fun k ⟨j, _, _, hj⟩ => own_ltX NW.out.own2 k hj)⟩, fun a W hA hb hd => takes5_plain rfl ?_⟩
          obtain ⟨b, hu, hbs, hbk⟩ := hd 2 (by simp) _ rfl
          have h19 : a.tmps[19]?.getD undef = .slice (some ⟨b, 0, none⟩) 256 256 := (eval_get a 19).trans hu
          refine .inl ⟨.slice (some ⟨W.heap.size, 0, none⟩) 1 1, W.alloc (.cells #[.slice (some ⟨b, 0, none⟩) 256 256] 22), ?_, ⟨_, _, rfl, CbB.new _ _ _, hb.size, b, rfl, hbs, hbk.alloc _⟩, Fr.of ((Below.refl _ _).alloc (Nat.le_refl _) _) _⟩
          go_simp
        · refine ⟨rfl, fun z W W1 ⟨b, h1, h2, h3, h4⟩ hf => ⟨b, h1, h2.fr hf (fun ⟨j, _, _, hj⟩ => by have := own_ltX NW.out.own2 _ hj; omega), row_fr h3 hf (fun k hk ⟨j, hj, hj2, _⟩ => hj hj2), h4⟩, fun a W hA hb hd => takes5_plain rfl ?_⟩
          have hs : a.eval (.tmp 18) = v2 := hd 1 (by simp) _ rfl
          obtain ⟨Gs, u, he, hcb, hGs, b, rfl, hbs, hbk⟩ := hd 3 (by simp) _ rfl
          have hx : a.eval (.tmp 20) = .slice (some ⟨Gs, 0, none⟩) 1 1 := he
          have hown := row_fr NW.out.own2 hb (fun k hk ⟨j, hj, hj2, _⟩ => hj hj2)
          obtain ⟨i0, hi0, hz0, hz1, hz2⟩ := info_parts infoSlB
          obtain ⟨vq, W1, hrun, r1, r2, _, r4⟩ := run_append_own_at (P := Tryz.prog) W w.heap.size 53 53 22 i0 _ 1 24 Tryz.underlying53 hi0 hz0 hz1 hz2 rfl (by decide) v2 b2.length _ hown ⟨Gs, 0, none⟩ 1 1 [.slice (some ⟨b, 0, none⟩) 256 256] rfl (row_at hcb) (by simp [Value.oneCell']) (by simp only [maxLen]; have := L2.out; have := HL.out; omega) (by have := L2.out; have := HL.out; omega) (Nat.le_trans HB.out.size hb.size)
          refine .inl ⟨vq, W1, ?_, ⟨b, hbs, hbk.fr (Fr.grown r2) (fun e => by have := own_ltX NW.out.own2 _ e; omega), r1, ?_⟩, (Fr.grown r2).imp fun k hk => ⟨rfl, hk⟩⟩
          · unfold execOp
            simp only [resolve, invoke, builtin, Sem.run_bind, Sem.run_pure, Result.andThen_ok, List.map_toArray, List.map_cons, List.map_nil, hs, hx, hrun]
          · rcases r4 with r4 | r4
            · exact .inl r4
            · exact .inr ⟨_, r4, hb.size⟩
        · refine ⟨rfl, IsR.monoF _ _, fun a W hA hb hd => Takes.to5 (takes_plain rfl (yields_value _ ?_ rfl)) _⟩
          have h3 : a.tmps[3]?.getD undef = .pointer (some ⟨w.heap.size, 0, none⟩) := (eval_get a 3).trans ((hA.eval (by simp)).trans rfl)
          go_simp
        intro vs1 wmn hR hb
        obtain ⟨b, hbs, hbk, hrow, hvv⟩ : AppR w.heap.size wm.heap.size v2 b2 (vs1 21) wmn := hR 4 _ rfl
        have e17 : vs1 17 = .pointer (some ⟨w.heap.size, 1, none⟩) := hR 0 _ rfl
        have e18 : vs1 18 = v2 := hR 1 _ rfl
        have e22 : vs1 22 = .pointer (some ⟨w.heap.size, 1, none⟩) := hR 5 _ rfl
        simp only [List.map_cons, List.map_nil, List.foldl_cons, List.foldl_nil, List.length_cons, List.length_nil, List.drop_succ_cons, List.drop_zero, Act.put, List.setIfInBounds_toArray, List.set_cons_zero, List.set_cons_succ, e17, e18, e22]
        have FR : Hid (Fr wm wmn (fun k => v2.ownBlock = some k)) := Lib.hid (hb.imp fun k ⟨j, _, hj⟩ => hj)
        have NW2 := Lib.hid (NW.out.push2 HB.out.size FR.out hbk (by rw [zeros_len]) hbs hrow hvv)
        have G2 := Lib.hid (NW.out.box.fr FR.out (row_ne NW.out.own2 NW.out.box (by decide)))
        have BB := Lib.hid (Fr.below FR.out (fun k hk => own_ge9 NW.out.own2 k hk) HB.out HB.out.size)
        obtain ⟨A2, c2, hv2⟩ := row_shape hrow
        generalize vs1 21 = q21 at *
        subst hv2
        have hf := G2.out.free 1
        have hcl := G2.out.cell (k := 1) rfl
        clear hR hb hrow hvv e17 e18 e22
        generalize vs1 19 = q19 at *
        generalize vs1 20 = q20 at *
        have B7 := Lib.hid (Fr.below (fr_cell wmn w.heap.size 1 (.slice A2 (b2.length + 1) c2)) (fun k hk => by omega) BB.out BB.out.size)
        clear G2 FR hbk hbs BB HB NW
        go_wp2_with fail
        go_roundw
        case rel => exact ⟨i + 1, HL.out, by go_num, _, _, _, _, NW2.out, by rw [List.length_append, L1.out]; rfl, by rw [List.length_append, L2.out]; rfl, B7.out⟩
        case measure => simp [intOf]; have := HL.out; omega
    · obtain rfl : i = 8 := by omega
      have HR := Lib.hid hr
      have HB := Lib.hid hb
      have L1 := Lib.hid hl1
      have L2 := Lib.hid hl2
      clear hr hb hlt hi hl1 hl2
      go_wp2_with fail
      go_ret
      exact ⟨w.heap.size, v1, v2, b1, b2, rfl, HR.out, L1.out, L2.out, HB.out⟩

theorem wrap_i64X (k : Nat) (h : k < 9223372036854775808) : IntKind.i64.wrap (k : Int) = (k : Int) := by
  simp only [IntKind.wrap]
  have : IntKind.i64.bits = 64 := rfl
  simp [IntKind.signed, IntKind.bits]
  omega
theorem drop_app_set {b m : List Nat} {k : Nat} (hk : k < b.length) (hm : m.length = 256) (h256 : b.length ≤ 256) : (b.take k ++ m.drop k).set k (at' b k) = b.take (k + 1) ++ m.drop (k + 1) := by
  apply List.ext_getElem?
  intro j
  have e1 : (b.take k).length = k := by rw [List.length_take]; omega
  have e2 : (b.take (k + 1)).length = k + 1 := by rw [List.length_take]; omega
  rw [List.getElem?_set]
  by_cases hj : k = j
  · subst hj
    rw [if_pos rfl, if_pos (by rw [List.length_append, e1, List.length_drop]; omega), List.getElem?_append_left (by omega), List.getElem?_take, if_pos (by omega)]
    simp [at', hk]
  · rw [if_neg hj]
    rcases Nat.lt_or_ge j k with h | h
    · rw [List.getElem?_append_left (by omega), List.getElem?_append_left (by omega), List.getElem?_take, List.getElem?_take, if_pos h, if_pos (by omega)]
    · rw [List.getElem?_append_right (by omega), List.getElem?_append_right (by omega), List.getElem?_drop, List.getElem?_drop, e1, e2]
      congr 1
      omega
section
variable (B g : Nat) (v1 v2 : Value) (b1 b2 : List Nat) (st cut : Int) (down : Bool) (L : List Nat) (w : World)
theorem RdB.form1 {w : World} {B g : Nat} {v1 v2 : Value} {b1 b2 : List Nat} {st cut : Int} {down : Bool} {L : List Nat} (h : RdB w B g v1 v2 b1 b2 st cut down L) (hl : b1.length = 8) : ∃ G c, v1 = .slice (some ⟨G, 0, none⟩) 8 c ∧ B ≤ G ∧ G < w.heap.size ∧ ∀ (i b : Nat), b1[i]? = some b → w.cell? ⟨G, i, none⟩ = some (.slice (some ⟨b, 0, none⟩) 256 256) := by
  have ho := h.own1
  rcases id ho.2 with ⟨rfl, h0⟩ | ⟨G, cap, cur, rfl, hb, hh, _⟩
  · omega
  · refine ⟨G, cap, by rw [hl], hb, (Array.getElem?_eq_some_iff.1 hh).1, fun i b hi => ?_⟩
    have := ho.cells (g := G) rfl i (.slice (some ⟨b, 0, none⟩) 256 256) (by rw [List.getElem?_map, hi]; rfl)
    rw [Addr.add_mid, Nat.zero_add] at this
    exact this
theorem RdB.form2 {w : World} {B g : Nat} {v1 v2 : Value} {b1 b2 : List Nat} {st cut : Int} {down : Bool} {L : List Nat} (h : RdB w B g v1 v2 b1 b2 st cut down L) (hl : b2.length = 8) : ∃ G c, v2 = .slice (some ⟨G, 0, none⟩) 8 c ∧ B ≤ G ∧ G < w.heap.size ∧ ∀ (i b : Nat), b2[i]? = some b → w.cell? ⟨G, i, none⟩ = some (.slice (some ⟨b, 0, none⟩) 256 256) := by
  have ho := h.own2
  rcases id ho.2 with ⟨rfl, h0⟩ | ⟨G, cap, cur, rfl, hb, hh, _⟩
  · omega
  · refine ⟨G, cap, by rw [hl], hb, (Array.getElem?_eq_some_iff.1 hh).1, fun i b hi => ?_⟩
    have := ho.cells (g := G) rfl i (.slice (some ⟨b, 0, none⟩) 256 256) (by rw [List.getElem?_map, hi]; rfl)
    rw [Addr.add_mid, Nat.zero_add] at this
    exact this
set_option maxRecDepth 100000 in
theorem rhas_any (i : Nat) (hi : i < 8) (h : RdB w B g v1 v2 b1 b2 st cut down L) (hl : b1.length = 8) :
    Calls Tryz.prog 83 #[.pointer (some ⟨g, 0, none⟩), .int .i64 (i : Int)] w fun e w' => e = .returned (.bool true) ∧ w = w' := by
  have c0 := h.box.cell (k := 0) rfl
  obtain ⟨G, c, rfl, _⟩ := h.form1 hl
  have h0 : (0 : Int) ≤ (i : Int) := by omega
  have h1 : (i : Int) < 8 := by omega
  clear h hi
  go_enter Tryz.func83, Tryz.ntmps83
  go_wp2_with fail
  go_ret
  exact ⟨rfl, rfl⟩
set_option maxRecDepth 100000 in
theorem rread_down (i : Nat) (hi : i < 8) (h : RdB w B g v1 v2 b1 b2 st cut true L) (hl : b1.length = 8) :
    Calls Tryz.prog 88 #[.pointer (some ⟨g, 0, none⟩), .int .i64 (i : Int)] w fun e w' => e = .returned (.tuple #[.slice none 0 0, .int .i64 81]) ∧ w = w' := by
  have HH := Lib.hid (rhas_any B g v1 v2 b1 b2 st cut true L w i hi h hl)
  have c6 := h.box.cell (k := 6) rfl
  clear h hi
  go_enter Tryz.func88, Tryz.ntmps88
  go_wp2_with fail
  refine HH.out.mono ?_
  rintro e w1 ⟨rfl, rfl⟩
  go_wp2_with fail
  go_ret2
  exact ⟨rfl, rfl⟩
set_option maxRecDepth 100000 in
theorem rread_any (i : Nat) (hi : i < 8) (h : RdB w B g v1 v2 b1 b2 st cut false L) (hL : L.length = 2048) (hb : Byt L) (hl : b1.length = 8) :
    Calls Tryz.prog 88 #[.pointer (some ⟨g, 0, none⟩), .int .i64 (i : Int)] w fun e w' => ∃ q, e = .returned (.tuple #[.slice (some ⟨q, 0, none⟩) 256 259, .int .i64 0]) ∧ IsB w' (some ⟨q, 0, none⟩) 256 259 (blkL L i) ∧ Below w.heap.size w w' := by
  have HH := Lib.hid (rhas_any B g v1 v2 b1 b2 st cut false L w i hi h hl)
  obtain ⟨x, hx⟩ : ∃ x, b1[i]? = some x := ⟨_, List.getElem?_eq_getElem (by omega)⟩
  obtain ⟨px, kx⟩ := h.at1 i x hx
  obtain ⟨G1, cp1, e1, G1B, G1l, cell1⟩ := h.form1 hl
  have ci1 := cell1 i x hx
  subst e1
  have c6 := h.box.cell (k := 6) rfl
  have c0 := h.box.cell (k := 0) rfl
  have i0 : (0 : Int) ≤ (i : Int) := by omega
  have i1 : (i : Int) < 8 := by omega
  have HC := Lib.hid (copy_isB (some ⟨x, 0, none⟩) 256 256 (blkL L i) w (isB_whole kx (blkL_byt hb) (blkL_len hL hi) (by decide)) (by decide))
  clear h hx px kx cell1 hL hb
  go_enter Tryz.func88, Tryz.ntmps88
  go_wp2_with fail
  refine HH.out.mono ?_
  rintro e w1 ⟨rfl, rfl⟩
  go_wp2_with fail
  refine HC.out.mono ?_
  rintro e w2 ⟨rfl, hv, hb⟩
  have V := Lib.hid hv
  have BB := Lib.hid hb
  clear hv hb HC
  go_wp2_with fail
  go_ret2
  exact ⟨_, rfl, V.out, BB.out⟩
set_option maxRecDepth 100000 in
theorem rforeign_no (i : Nat) (hi : i < 8) (bA : Option Addr) (bn bc : Nat) (h : RdB w B g v1 v2 b1 b2 st cut down L) (hl : b1.length = 8) (hn : 256 < bn) :
    Calls Tryz.prog 20 #[.pointer (some ⟨g, 0, none⟩), .int .i64 (i : Int), .int .i64 0, .slice bA bn bc] w fun e w' => e = .returned (.int .i64 2) ∧ w = w' := by
  have HH := Lib.hid (rhas_any B g v1 v2 b1 b2 st cut down L w i hi h hl)
  have h1 : (256 : Int) < (bn : Int) := by omega
  clear h hi hn
  go_enter Tryz.func20, Tryz.ntmps20
  go_wp2_with fail
  refine HH.out.mono ?_
  rintro e w1 ⟨rfl, rfl⟩
  go_wp2_with fail
  go_ret
  exact ⟨rfl, rfl⟩
theorem RdB.put {w w' : World} {B g : Nat} {v1 v2 : Value} {b1 b2 : List Nat} {st cut : Int} {down : Bool} {L b : List Nat} {i x y : Nat} (h : RdB w B g v1 v2 b1 b2 st cut down L) (hL : L.length = 2048) (hl1 : b1.length = 8) (hl2 : b2.length = 8) (hi : i < 8) (hx : b1[i]? = some x) (hy : b2[i]? = some y)
    (hf : Fr w w' (fun k => k = x ∨ k = y)) (hb : b.length ≤ 256) (hbx : Bk w' x 5 (b ++ (blkL L i).drop b.length)) (hby : ∃ l, Bk w' y 5 l ∧ l.length = 256) : RdB w' B g v1 v2 b1 b2 st cut down (putD L b i) := by
  obtain ⟨px, kx⟩ := h.at1 i x hx
  obtain ⟨py, ly, ky, _⟩ := h.at2 i y hy
  have tx : ∀ {q : Nat} {T : TypeId} {cs : Array Value}, CbB w q T cs → T ≠ 5 → q ≠ x ∧ q ≠ y := fun {q T cs} hq hT => ⟨cb_ne hq (show CbB w x _ _ from kx) hT, cb_ne hq (show CbB w y _ _ from ky) hT⟩
  have inj : ∀ {j k q : Nat}, b1[j]? = some q → b1[k]? = some q → j = k := fun {j k q} hj hk => by
    have hn := (List.nodup_append.1 h.nd).1
    obtain ⟨aj, ej⟩ := List.getElem?_eq_some_iff.1 hj
    obtain ⟨ak, ek⟩ := List.getElem?_eq_some_iff.1 hk
    exact (List.getElem_inj hn).1 (ej.trans ek.symm)
  have dis : ∀ {p q : Nat}, p ∈ b1 → q ∈ b2 → p ≠ q := fun {p q} hp hq => (List.nodup_append.1 h.nd).2.2 p hp q hq
  refine ⟨h.box.fr hf (fun e => by have := tx h.box (by decide); omega), row_fr h.own1 hf (fun k hk e => ?_), row_fr h.own2 hf (fun k hk e => ?_), h.ne12, fun j q hj => ?_, fun j q hj => ?_, h.nd, h.low⟩
  · rcases e with rfl | rfl
    · exact row_ne h.own1 (show CbB w _ _ _ from kx) (by decide) hk
    · exact row_ne h.own1 (show CbB w _ _ _ from ky) (by decide) hk
  · rcases e with rfl | rfl
    · exact row_ne h.own2 (show CbB w _ _ _ from kx) (by decide) hk
    · exact row_ne h.own2 (show CbB w _ _ _ from ky) (by decide) hk
  · obtain ⟨p1, p2⟩ := h.at1 j q hj
    refine ⟨p1, ?_⟩
    by_cases hji : i = j
    · subst hji
      obtain rfl : x = q := by rw [hx] at hj; injection hj
      rw [blkL_put hL hi hb]
      exact hbx
    · rw [blkL_ne hL hi hb hji]
      refine p2.fr hf (fun e => ?_)
      rcases e with rfl | rfl
      · exact hji (inj hx hj)
      · exact dis (List.mem_of_getElem? hj) (List.mem_of_getElem? hy) rfl
  · obtain ⟨p1, l, p2, p3⟩ := h.at2 j q hj
    by_cases hqy : q = y
    · subst hqy
      obtain ⟨l', q1, q2⟩ := hby
      exact ⟨p1, l', q1, q2⟩
    · refine ⟨p1, l, p2.fr hf (fun e => ?_), p3⟩
      rcases e with rfl | rfl
      · exact dis (List.mem_of_getElem? hx) (List.mem_of_getElem? hj) rfl
      · exact hqy rfl
set_option maxRecDepth 100000 in
set_option maxHeartbeats 4000000 in
theorem rforeign_yes (i : Nat) (hi : i < 8) (bA : Option Addr) (bn bc : Nat) (b : List Nat) (h : RdB w B g v1 v2 b1 b2 st cut down L) (hL : L.length = 2048) (hbL : Byt L) (hl1 : b1.length = 8) (hl2 : b2.length = 8) (ib : IsB w bA bn bc b) (hn : ¬ 256 < bn) (hA : 0 < bn → ∀ x, bA = some x → x.block < B) :
    Calls Tryz.prog 20 #[.pointer (some ⟨g, 0, none⟩), .int .i64 (i : Int), .int .i64 0, .slice bA bn bc] w fun e w' => e = .returned (.int .i64 0) ∧ RdB w' B g v1 v2 b1 b2 st cut down (putD L b i) ∧ Fr w w' (fun k => B ≤ k ∧ k < w.heap.size) := by
  have HH := Lib.hid (rhas_any B g v1 v2 b1 b2 st cut down L w i hi h hl1)
  have hbl := ib.len
  obtain ⟨x, hx⟩ : ∃ x, b1[i]? = some x := ⟨_, List.getElem?_eq_getElem (by omega)⟩
  obtain ⟨y, hy⟩ : ∃ y, b2[i]? = some y := ⟨_, List.getElem?_eq_getElem (by omega)⟩
  obtain ⟨px, kx⟩ := h.at1 i x hx
  obtain ⟨py, ly, ky, kyl⟩ := h.at2 i y hy
  have hxy : x ≠ y := (List.nodup_append.1 h.nd).2.2 x (List.mem_of_getElem? hx) y (List.mem_of_getElem? hy)
  obtain ⟨G1, cp1, e1, G1B, G1l, cell1⟩ := h.form1 hl1
  obtain ⟨G2, cp2, e2, G2B, G2l, cell2⟩ := h.form2 hl2
  have ci1 := cell1 i x hx
  have ci2 := cell2 i y hy
  subst e1 e2
  have n1 : G1 ≠ x ∧ G1 ≠ y := ⟨fun e => row_ne h.own1 (show CbB w x _ _ from kx) (by decide) (by rw [← e]; rfl), fun e => row_ne h.own1 (show CbB w y _ _ from ky) (by decide) (by rw [← e]; rfl)⟩
  have n2 : G2 ≠ x ∧ G2 ≠ y := ⟨fun e => row_ne h.own2 (show CbB w x _ _ from kx) (by decide) (by rw [← e]; rfl), fun e => row_ne h.own2 (show CbB w y _ _ from ky) (by decide) (by rw [← e]; rfl)⟩
  have ng : g ≠ x ∧ g ≠ y := ⟨cb_ne h.box (show CbB w x _ _ from kx) (by decide), cb_ne h.box (show CbB w y _ _ from ky) (by decide)⟩
  have hf0 : ∀ (W : World) (F : Nat → Prop) (q k : Nat) (u : Value), w.cell? ⟨q, k, none⟩ = some u → q < w.heap.size → Fr w W F → ¬ F q → W.cell? ⟨q, k, none⟩ = some u := fun W F q k u hc hq hf hF => (World.cell?_of_block (hf.block q hq hF)).trans hc
  have K := Lib.hid h
  have h1 : ¬ (256 : Int) < (bn : Int) := by omega
  have i0 : (0 : Int) ≤ (i : Int) := by omega
  have i1 : (i : Int) < 8 := by omega
  have bn0 : (0 : Int) ≤ (bn : Int) := by omega
  have IB := Lib.hid ib
  have HX := Lib.hid hx
  have HY := Lib.hid hy
  have KX := Lib.hid kx
  have KY := Lib.hid ky
  have N := Lib.hid (And.intro n1 (And.intro n2 ng))
  have NXY := Lib.hid hxy
  have CI1 := Lib.hid ci1
  have CI2 := Lib.hid ci2
  have GL := Lib.hid (And.intro G1l G2l)
  have PXY := Lib.hid (And.intro px py)
  have HA := Lib.hid hA
  have HI := Lib.hid hi
  have LL := Lib.hid hL
  have KYL := Lib.hid kyl
  have HF0 := Lib.hid hf0
  have cg0 := Lib.hid (h.box.cell (k := 0) rfl)
  have cg1 := Lib.hid (h.box.cell (k := 1) rfl)
  have BX := Lib.hid h.box.lt
  have LEN1 := Lib.hid hl1
  have LEN2 := Lib.hid hl2
  have HN := Lib.hid hn
  have BL := Lib.hid hbl
  have BLB := Lib.hid hbL
  clear h ib hx hy kx ky n1 n2 ng hxy cell1 cell2 ci1 ci2 G1l G2l px py hA hi hL kyl hf0 hl1 hl2 hn hbl hbL
  go_enter Tryz.func20, Tryz.ntmps20
  go_wp2_with fail
  refine HH.out.mono ?_
  rintro e w1 ⟨rfl, rfl⟩
  clear HH
  go_wp2_with fail
  go_loopw [9] (fun z wr => ∃ k : Nat, k ≤ bn ∧ z = .int .i64 (k : Int) ∧ Fr w wr (fun q => q = x ∨ q = y) ∧ Bk wr x 5 (b.take k ++ (blkL L i).drop k) ∧ ∃ l, Bk wr y 5 l ∧ l.length = 256) (fun z _ => bn - (intOf z).toNat)
  case atStart => exact ⟨0, Nat.zero_le _, rfl, Fr.of (Below.refl _ _) _, by simpa using KX.out, ly, KY.out, KYL.out⟩
  case round =>
    obtain ⟨k, hk, rfl, hf, hbx, l, hby, hyl⟩ := hrel
    by_cases hlt : k < bn
    · have hlti : (k : Int) < (bn : Int) := by omega
      have c0 : wr.cell? ⟨g, 0, none⟩ = some _ := HF0.out _ _ _ _ _ cg0.out BX.out hf (by have := N.out; omega)
      have c1 : wr.cell? ⟨g, 1, none⟩ = some _ := HF0.out _ _ _ _ _ cg1.out BX.out hf (by have := N.out; omega)
      have d0 : wr.cell? ⟨G1, i, none⟩ = some _ := HF0.out _ _ _ _ _ CI1.out GL.out.1 hf (by have := N.out; omega)
      have d1 : wr.cell? ⟨G2, i, none⟩ = some _ := HF0.out _ _ _ _ _ CI2.out GL.out.2 hf (by have := N.out; omega)
      obtain ⟨y0, rfl, yl, hyc⟩ := IB.out.cell (Nat.lt_of_le_of_lt (Nat.zero_le _) hlt)
      have hy0 : y0.block < B := HA.out (Nat.lt_of_le_of_lt (Nat.zero_le _) hlt) y0 rfl
      have cb : wr.cell? (y0.add k) = some (.int .u8 (at' b k : Nat)) := (World.cell?_of_block (hf.block _ (by rw [add_block]; exact yl) (by rw [add_block]; have := PXY.out; omega))).trans (hyc k hlt)
      have k256 : (k : Int) < 256 := by have := HN.out; omega
      have k00 : (0 : Int) ≤ (k : Int) := by omega
      have wk : IntKind.i64.wrap (k : Int) = (k : Int) := wrap_i64X k (by have := HN.out; omega)
      have HYC := Lib.hid (hyc k hlt)
      have YLT := Lib.hid yl
      have hcx := hbx.cell (k := k) (by rw [List.length_append, List.length_take, List.length_drop, blkL_len LL.out HI.out, BL.out]; have := HN.out; omega)
      have hfx := hbx.free k
      have FX := Lib.hid hf
      have XB := Lib.hid hbx
      have YB := Lib.hid hby
      have YL := Lib.hid hyl
      have KL := Lib.hid hlt
      clear hf hbx hby hyl hyc hlt hk
      generalize (b.take k ++ (blkL L i).drop k)[k]?.getD 0 = old at hcx
      go_wp2_with fail
      refine wp_still_tail 15 (by kernel_rfl) (by kernel_rfl) ?_
      simp only [List.take_succ_cons, List.take_zero, List.drop_succ_cons, List.drop_zero]
      repeat still_step
      try simp only [wk]
      repeat still_step
      refine wpStill_nil ?_
      go_upto_region 7 with (fail)
      obtain ⟨wm, hwm⟩ : ∃ wm, (wr.setCell ⟨x, k, none⟩ (.int .u8 (at' b k : Nat))).drew = wm := ⟨_, rfl⟩
      have fm : Fr w wm (fun q => q = x ∨ q = y) := by rw [← hwm]; exact (FX.out.tr ((fr_cell _ _ _ _).imp fun q hq => .inl hq)).tr (Fr.of (Below.refl _ _).drew _)
      have XM : Hid (Bk wm x 5 (b.take (k + 1) ++ (blkL L i).drop (k + 1))) := Lib.hid (by
        rw [← hwm, ← drop_app_set (by rw [BL.out]; exact KL.out) (blkL_len LL.out HI.out) (by rw [BL.out]; have := HN.out; omega)]
        exact (XB.out.set k _).drew)
      have ym : Bk wm y 5 l := by rw [← hwm]; exact (YB.out.far (Ne.symm NXY.out) _).drew
      rw [hwm]
      clear hwm hcx hfx
      have c1 : wm.cell? ⟨g, 1, none⟩ = some _ := HF0.out _ _ _ _ _ cg1.out BX.out fm (by have := N.out; omega)
      have d1 : wm.cell? ⟨G2, i, none⟩ = some _ := HF0.out _ _ _ _ _ CI2.out GL.out.2 fm (by have := N.out; omega)
      have cb : wm.cell? (y0.add k) = some (.int .u8 (at' b k : Nat)) := (World.cell?_of_block (fm.block _ (by rw [add_block]; exact YLT.out) (by rw [add_block]; have := PXY.out; omega))).trans HYC.out
      have hcx := ym.cell (k := k) (by rw [YL.out]; have := HN.out; have := KL.out; omega)
      have hfx := ym.free k
      generalize l[k]?.getD 0 = old at hcx
      have FM := Lib.hid fm
      have YM := Lib.hid ym
      clear fm ym XB YB FX
      refine wp_still_tail 15 (by kernel_rfl) (by kernel_rfl) ?_
      simp only [List.take_succ_cons, List.take_zero, List.drop_succ_cons, List.drop_zero]
      repeat still_step
      try simp only [wk]
      repeat still_step
      refine wpStill_nil ?_
      have FN : Hid (Fr w (wm.setCell ⟨y, k, none⟩ (.int .u8 (at' b k : Nat))).drew (fun q => q = x ∨ q = y)) := Lib.hid ((FM.out.tr ((fr_cell _ _ _ _).imp fun q hq => .inr hq)).tr (Fr.of (Below.refl _ _).drew _))
      have XN := Lib.hid (XM.out.far (c := y) (k := k) NXY.out (.int .u8 (at' b k : Nat))).drew
      have YN := Lib.hid (YM.out.set k (at' b k)).drew
      clear XM YM FM
      go_wp2_with fail
      go_roundw
      case rel => exact ⟨k + 1, KL.out, by go_num, FN.out, XN.out, _, YN.out, by rw [List.length_set]; exact YL.out⟩
      case measure => simp [intOf]; have := KL.out; omega
    · obtain rfl : k = bn := by omega
      have FX := Lib.hid hf
      have XB := Lib.hid hbx
      have YB := Lib.hid hby
      have YL := Lib.hid hyl
      clear hf hbx hby hyl hlt hk
      go_wp2_with fail
      go_ret
      refine ⟨rfl, K.out.put LL.out LEN1.out LEN2.out HI.out HX.out HY.out FX.out (by rw [BL.out]; have := HN.out; omega) ?_ ⟨l, YB.out, YL.out⟩, FX.out.imp fun q hq => ?_⟩
      · have := XB.out
        rw [List.take_of_length_le (by rw [BL.out]; exact Nat.le_refl _), ← BL.out] at this
        exact this
      · have := PXY.out
        have := KX.out.lt
        have := KY.out.lt
        omega
end
end Go.Proofs.YtakgebbeknfplaaGreat
