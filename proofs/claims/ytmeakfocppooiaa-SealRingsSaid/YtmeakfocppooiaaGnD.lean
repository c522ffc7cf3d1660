/-
  SCRIPTS OF CALLS OF A RING: the walk.
-/
import Derived.Test.YtmeakfocppooiaaGnC
import Derived.Test.YtmeakfocppooiaaSeJ
import Derived.BigQuiet
namespace Go.Proofs.Ytmeakfocppooiaa
open Go.RowKit
set_option linter.unusedVariables false

/-- both rings -/
def Duo (B g m g2 : Nat) (l : RgL) (W : World) : Prop := (∃ vs, RgE W B g m vs l) ∧ ∃ v vs, RkB W B g2 v vs l
theorem Duo.ab {B g m g2 : Nat} {l : RgL} {W W' : World} (h : Duo B g m g2 l W) (hb : Below W.heap.size W W') : Duo B g m g2 l W' := by
  obtain ⟨⟨vs, h1⟩, v, us, h2⟩ := h
  exact ⟨⟨vs, h1.fr (Fr.of hb (fun _ => False)) id id (fun _ _ _ _ => id)⟩, v, us, h2.ab hb⟩
theorem Duo.nodup {B g m g2 : Nat} {l : RgL} {W : World} (h : Duo B g m g2 l W) : (l.map (·.1)).Nodup := by
  obtain ⟨⟨vs, h1⟩, _⟩ := h
  rw [← h1.vals.keys]
  exact h1.map.nodup wh_K
theorem Duo.oks {B g m g2 : Nat} {l : RgL} {W : World} (h : Duo B g m g2 l W) : ∀ p ∈ l.map (·.1), p.2 < 65536 := by
  obtain ⟨⟨vs, h1⟩, _⟩ := h
  rw [← h1.vals.keys]
  intro p hp
  obtain ⟨q, hq, rfl⟩ := List.mem_map.1 hp
  exact (h1.map.oks q hq).2
def NsR (B : Nat) (L : List Nat) (z : Value) (W : World) : Prop := U16.NsB W B z L
theorem NsR.mono (B : Nat) (L : List Nat) : Mono (NsR B L) := fun _ _ _ h hb => U16.NsB.ab h hb
theorem nsb_lower {w : World} {B C : Nat} {v : Value} {l : List Nat} (h : U16.NsB w C v l) (hB : B ≤ C) : U16.NsB w B v l := row_lower h hB
theorem idx_of (x : Nat × Nat) (l : RgL) : ∃ idx : Int, (idx = -1 ∧ getR x l = none) ∨ ∃ (i : Nat) (k : List Nat), idx = (i : Int) ∧ l[i]? = some (x, k) ∧ ∀ (j : Nat) (q : (Nat × Nat) × List Nat), j < i → l[j]? = some q → q.1 ≠ x := by
  cases h : getR x l with
  | none => exact ⟨-1, .inl ⟨rfl, rfl⟩⟩
  | some k =>
    obtain ⟨i, h1, h2⟩ := getR_idx h
    exact ⟨(i : Int), .inr ⟨i, k, rfl, h1, h2⟩⟩
theorem RkB.grownE {w w' : World} {B g m : Nat} {v : Value} {vs : List ((Nat × Nat) × Value)} {l : RgL} {B' g' : Nat} {l' : RgL} (h : RkB w B g v vs l) (hr : RgB w B' g' m l') (hg : w.grownBy w' (some m)) : RkB w' B g v vs l := by
  obtain ⟨us, hm, _⟩ := hr.map
  have hf := Fr.grown hg
  have hgm : g ≠ m := fun e => by
    obtain ⟨es, c, h1, _⟩ := hm
    have := h.box
    unfold CbB at this
    rw [e, h1] at this
    cases this
  refine ⟨h.box.fr hf (fun e => hgm (by injection e with e; exact e.symm)), row_fr h.own hf (fun k hk e => ?_), h.vals.imp fun z k hz => hz.fr hf (fun q hq e => notMap hz hm (by rw [hq, e])), Nat.le_trans h.low hg.size, h.ne⟩
  injection e with e
  subst e
  rcases h.own.2 with ⟨rfl, _⟩ | ⟨gb, cap, cur, rfl, _, hh, _⟩
  · cases hk
  · obtain ⟨es, c, h1, _⟩ := hm
    have : gb = m := by injection hk
    subst this
    rw [h1] at hh
    cases hh
theorem RgE.frK {w w' : World} {B g m : Nat} {us : List ((Nat × Nat) × Value)} {l : RgL} {B' g' : Nat} {v : Value} {vs : List ((Nat × Nat) × Value)} {l' : RgL} (h : RgE w B g m us l) (hr : RkB w B' g' v vs l') (hf : Fr w w' (fun k => k = g' ∨ v.ownBlock = some k)) : RgE w' B g m us l := by
  have hm := h.map
  have hv := h.vals
  have hcb : CbB w g 173 #[.map (some m)] := h.box
  obtain ⟨es, c, hme, _⟩ := id hm
  have nb : ∀ k, v.ownBlock = some k → ∃ cs T x, w.heap[k]? = some (.cells cs T x) := fun k hk => by
    rcases hr.own.2 with ⟨rfl, _⟩ | ⟨gb, cap, cur, rfl, _, hh, _⟩
    · cases hk
    · have : gb = k := by injection hk
      subst this
      exact ⟨_, _, _, hh⟩
  refine ⟨(hcb.fr hf ?_ : CbB w' g _ _), h.low, hm.same (hf.block m hm.lt ?_), hv.imp fun z k hz => hz.fr hf ?_, h.ne⟩
  · rintro (e | e)
    · subst e
      have h1 := hr.box
      unfold CbB at h1
      rw [h.box] at h1
      injection h1 with h1
      injection h1 with h1 h2
      exact absurd h2 (by decide)
    · exact row_ne hr.own hcb (by decide) e
  · rintro (e | e)
    · subst e
      have h1 := hr.box
      unfold CbB at h1
      rw [hme] at h1
      cases h1
    · obtain ⟨cs, T, x, h1⟩ := nb _ e
      rw [hme] at h1
      cases h1
  · rintro q hq (e | e)
    · subst e
      exact own_ne' (by decide) hr.box hz hq
    · exact row_own_ne hr.own hz (by decide) q hq e
theorem takes6_plain {P : Program} {ops : Array Oper} {o : Oper} {a : Act} {W : World} {S : World → World → Prop} {R : Value → World → Prop} (hg : o.guard = none) (h : Yields6 P o a W S R) : Takes6 P ops o a W S R := .inl ⟨by simp [Region.wanted, hg], h⟩
theorem copy_own2 (A : Option Addr) (n c : Nat) (l : List Nat) (w : World) (h : IsB w A n c l) (hn : n ≤ 100000) :
    Calls Try.prog 19 #[.slice A n c] w fun e w' => ∃ cap, e = .returned (.slice (some ⟨w.heap.size, 0, none⟩) n cap) ∧ OwB w' w.heap.size (.slice (some ⟨w.heap.size, 0, none⟩) n cap) l ∧ Below w.heap.size w w' ∧ w.heap.size < w'.heap.size := by
  have lk := h.len
  refine (copy_any A n c l w h (by omega)).mono ?_
  rintro e w' ⟨rfl, hk1, hb1⟩
  exact ⟨_, rfl, OwB.ofBk hk1 (Nat.le_refl _) lk (by omega) (by rw [List.length_append, lk, zeros_len]) (by omega) (by rw [List.take_append_of_le_length (by rw [lk]; exact Nat.le_refl _), List.take_of_length_le (by rw [lk]; exact Nat.le_refl _)]) h.2, hb1, hk1.lt⟩
theorem rkAdd_farE (B g t gn : Nat) (v : Value) (vs : List ((Nat × Nat) × Value)) (l : RgL) (kA : Option Addr) (kn kc : Nat) (key : List Nat) (w0 w : World) (h : RkB w B g v vs l) (hB : w0.heap.size ≤ B) (ht : t < 4294967296) (hg : gn < 65536) (h200 : l.length ≤ 1000) (ik0 : IsB w0 kA kn kc key) (ik : IsB w kA kn kc key) (X : Nat) (hX : X < w.heap.size) (hN : NoX vs X) :
    Calls Try.prog 51 #[.pointer (some ⟨g, 0, none⟩), .int .u32 (t : Int), .int .u16 (gn : Int), .slice kA kn kc] w fun e w' => ∃ v' vs', e = .returned (.int .i64 ((addP (t, gn) key l).1 : Int)) ∧ RkB w' B g v' vs' (addP (t, gn) key l).2 ∧ NoX vs' X ∧ Fr w w' (fun k => k = g ∨ v.ownBlock = some k) := by
  by_cases hk : kn = 16 ∨ kn = 32
  · refine rkAdd_anyE B g t gn v vs l kA kn kc key w h ht hg h200 ik (fun x hx hv => ?_) X hX hN
    obtain ⟨y, hy, hl, _⟩ := ik0.cell (by omega)
    rw [hx] at hy
    injection hy with hy
    subst hy
    have := own_ge9 h.own _ hv
    omega
  · have hlen := ik.len
    refine (rkAdd_arg g _ _ kA kn kc w hk).mono ?_
    rintro e w' ⟨rfl, rfl⟩
    have e1 : addP (t, gn) key l = (2, l) := by unfold addP; rw [if_neg (by omega)]
    rw [e1]
    exact ⟨v, vs, rfl, h, hN, Fr.of (Below.refl _ _) _⟩
theorem addP_len1 (x : Nat × Nat) (k : List Nat) (l : RgL) : (addP x k l).2.length ≤ l.length + 1 := by
  unfold addP
  split
  · split <;> simp
  · simp
def PreN (a b : Nat) (PA PB : World → Prop) (i : Nat) (W : World) : Prop := (i = a → PA W) ∧ (i = b → PB W)
def StepN (a b B g m g2 : Nat) (i : Nat) (W W' : World) : Prop :=
  Below W.heap.size W W' ∨ (i = a ∧ (∃ l, RgB W B g m l) ∧ W.grownBy W' (some m)) ∨ (i = b ∧ ∃ v vs l, RkB W B g2 v vs l ∧ Fr W W' (fun k => k = g2 ∨ v.ownBlock = some k))
section
variable {a b B g m g2 : Nat} {l : RgL} {W W' : World} {i : Nat}
theorem stepN_rg (hi : i ≠ a) {vs : List ((Nat × Nat) × Value)} (h : StepN a b B g m g2 i W W') (hr : RgE W B g m vs l) : RgE W' B g m vs l := by
  rcases h with h | ⟨h, _⟩ | ⟨_, v, us, l', h1, h2⟩
  · exact hr.fr (Fr.of h (fun _ => False)) id id (fun _ _ _ _ => id)
  · exact absurd h hi
  · exact hr.frK h1 h2
theorem stepN_rk (hi : i ≠ b) {v : Value} {us : List ((Nat × Nat) × Value)} (h : StepN a b B g m g2 i W W') (hr : RkB W B g2 v us l) : RkB W' B g2 v us l := by
  rcases h with h | ⟨_, ⟨l', h1⟩, h2⟩ | ⟨h, _⟩
  · exact hr.ab h
  · exact hr.grownE h1 h2
  · exact absurd h hi
theorem stepN_below {w : World} (h2 : w.heap.size ≤ g2) (h : StepN a b w.heap.size g m g2 i W W') (hb : Below w.heap.size w W) : Below w.heap.size w W' := by
  rcases h with h | ⟨_, ⟨l', h1⟩, h3⟩ | ⟨_, v, vs, l', h1, h3⟩
  · exact below_tr hb h hb.size
  · exact below_grown hb h3 h1.low hb.size
  · refine Fr.below h3 (fun k hk => ?_) hb hb.size
    rcases hk with rfl | hk
    · exact h2
    · exact own_ge9 h1.own k hk
theorem stepN_op {ob : Nat} {cs : Array Value} (h : StepN a b B g m g2 i W W') (hc : CbB W ob 112 cs) : CbB W' ob 112 cs := by
  rcases h with h | ⟨_, ⟨l', h1⟩, h3⟩ | ⟨_, v, vs, l', h1, h3⟩
  · exact hc.ab h
  · refine hc.fr (Fr.grown h3) fun e => ?_
    injection e with e
    subst e
    obtain ⟨us, ⟨es, c, hm, _⟩, _⟩ := h1.map
    unfold CbB at hc
    rw [hc] at hm
    cases hm
  · refine hc.fr h3 ?_
    rintro (e | e)
    · subst e
      have h4 := h1.box
      unfold CbB at h4 hc
      rw [hc] at h4
      injection h4 with h4
      injection h4 with h4 h5
      exact absurd h5 (by decide)
    · exact row_ne h1.own hc (by decide) e
theorem stepN_size (h : StepN a b B g m g2 i W W') : W.heap.size ≤ W'.heap.size := by
  rcases h with h | ⟨_, _, h3⟩ | ⟨_, v, vs, l', h1, h3⟩
  · exact h.size
  · exact h3.size
  · exact h3.size
theorem stepN_own {C : Nat} {z : Value} {k : List Nat} (h : StepN a b B g m g2 i W W') (hz : OwB W C z k) : OwB W' C z k := by
  rcases h with h | ⟨_, ⟨l', h1⟩, h3⟩ | ⟨_, v, vs, l', h1, h3⟩
  · exact hz.ab h
  · obtain ⟨us, hm, _⟩ := h1.map
    exact hz.grown h3 (notMap hz hm)
  · refine hz.fr h3 fun q hq => ?_
    rintro (e | e)
    · subst e
      exact own_ne' (by decide) h1.box hz hq
    · exact row_own_ne h1.own hz (by decide) q hq e
end
set_option maxRecDepth 100000 in
set_option maxHeartbeats 16000000 in
theorem srings_any (A : Option Addr) (n c : Nat) (qs : List OArg) (w : World) (hk : OcB w A n c qs) :
    Calls Try.prog 11 #[.slice A n c] w fun e w' => e = .returned (.bool true) ∧ Below w.heap.size w w' := by
  have hn : (n : Int) ≤ 9223372036854775807 := by have := hk.cap; have := hk.max; unfold maxLen at this; omega
  have K0 := Lib.hid hk
  clear hk
  go_enter Try.func11, Try.ntmps11
  by_cases h60 : 200 < n
  · have h60' : (200 : Int) < (n : Int) := by omega
    clear h60
    go_wp2_with fail
    refine (known10_any _).mono ?_
    rintro e w6 ⟨rfl, hb⟩
    have B6 := Lib.hid hb
    clear hb
    go_wp2_with fail
    go_ret
    exact ⟨rfl, B6.out⟩
  have h60' : ¬ (200 : Int) < (n : Int) := by omega
  have N60 := Lib.hid h60
  clear h60
  go_wp2_with fail
  refine (newRing_any _).mono ?_
  rintro e w1 ⟨g, m, rfl, hg, hr, hb⟩
  have R1 := Lib.hid hr
  have B1 := Lib.hid hb
  have HG := Lib.hid hg
  clear hr hb hg
  go_wp2_with fail
  obtain ⟨g2, hg2⟩ : ∃ g2, g2 = w1.heap.size := ⟨_, rfl⟩
  rw [← hg2]
  have HG2 : Hid (w.heap.size ≤ g2) := Lib.hid (by rw [hg2]; exact B1.out.size)
  have ha : Below w1.heap.size w1 (w1.alloc (.cells #[.slice none 0 0] 110)) := (Below.refl _ _).alloc (Nat.le_refl _) _
  have D0 : Hid (Duo w.heap.size g m g2 [] (w1.alloc (.cells #[.slice none 0 0] 110))) := Lib.hid (by
    obtain ⟨vs, h1⟩ := (R1.out.ab ha).rgE
    exact ⟨⟨vs, h1⟩, .slice none 0 0, [], by rw [hg2]; exact CbB.new _ _ _, ⟨by simp [keyCs], .inl ⟨rfl, rfl⟩⟩, trivial, Nat.le_trans B1.out.size ha.size, fun p hp => by cases hp⟩)
  have A0 := Lib.hid (below_tr B1.out ha B1.out.size)
  clear ha hg2
  go_loopw [28] (fun z wr => ∃ (i : Nat) (l : RgL), i ≤ n ∧ z = .int .i64 (i : Int) ∧ l.length ≤ i ∧ Duo w.heap.size g m g2 l wr ∧ Below w.heap.size w wr) (fun z _ => n - (intOf z).toNat)
  case atStart => exact ⟨0, [], Nat.zero_le _, rfl, Nat.le_refl _, D0.out, A0.out⟩
  case round =>
    obtain ⟨i, l, hi, rfl, hll, hd, hb⟩ := hrel
    by_cases hlt : i < n
    · obtain ⟨q, hq⟩ : ∃ q, qs[i]? = some q := ⟨_, List.getElem?_eq_getElem (by rw [K0.out.len]; exact hlt)⟩
      obtain ⟨x, rfl, hxl, hcell, hkd, qt, qg, ik⟩ := K0.out.cel i q hq
      have hlti : (i : Int) < (n : Int) := by omega
      have HL := Lib.hid hlt
      have LL := Lib.hid hll
      have HD := Lib.hid hd
      have HB := Lib.hid hb
      have IK := Lib.hid ik
      have QT := Lib.hid qt
      have QG := Lib.hid qg
      have L200 : Hid (l.length ≤ 1000) := Lib.hid (by have := N60.out; omega)
      have KC : Hid (∀ W, Below w.heap.size w W → W.cell? (x.add (i * 4)) = some (.int .i64 q.kd) ∧ ∀ (j : Nat) (u : Value), (ocv q)[j + 1]? = some u → W.cell? ⟨(x.add (i * 4)).block, (x.add (i * 4)).off + (j + 1), none⟩ = some u) := Lib.hid fun W hW => by
        have hk : ∀ (j : Nat) (u : Value), (ocv q)[j]? = some u → W.cell? (x.add (i * 4 + j)) = some u := fun j u hu => by
          rw [← hcell j u hu]
          refine World.cell?_of_block ?_
          rw [add_block]
          exact hW.block _ hxl
        refine ⟨hk 0 _ rfl, fun j u hu => ?_⟩
        have h2 := hk (j + 1) u hu
        rw [← Go.Deep.add_add] at h2
        exact h2
      clear hll hd hb ik qt qg hcell hxl hi hq hlt
      have ac0 : wr.cell? (x.add (i * 4)) = some (.int .i64 q.kd) := (KC.out wr HB.out).1
      have ac1 : wr.cell? ⟨(x.add (i * 4)).block, (x.add (i * 4)).off + 1, none⟩ = some (.int .u32 (q.t : Int)) := (KC.out wr HB.out).2 0 _ rfl
      have ac2 : wr.cell? ⟨(x.add (i * 4)).block, (x.add (i * 4)).off + 2, none⟩ = some (.int .u16 (q.g : Int)) := (KC.out wr HB.out).2 1 _ rfl
      have ac3 : wr.cell? ⟨(x.add (i * 4)).block, (x.add (i * 4)).off + 3, none⟩ = some (.slice q.a q.n q.c) := (KC.out wr HB.out).2 2 _ rfl
      obtain ⟨w2, hw2⟩ : ∃ w2, ((wr.alloc (.cells #[.int .i64 q.kd, .int .u32 (q.t : Int), .int .u16 (q.g : Int), .slice q.a q.n q.c] 112)).alloc (.cells #[.slice q.a q.n q.c] 28)) = w2 := ⟨_, rfl⟩
      have b1 : Below wr.heap.size wr (wr.alloc (.cells #[.int .i64 q.kd, .int .u32 (q.t : Int), .int .u16 (q.g : Int), .slice q.a q.n q.c] 112)) := (Below.refl _ _).alloc (Nat.le_refl _) _
      have D2 : Hid (Below wr.heap.size wr w2) := Lib.hid (by rw [← hw2]; exact b1.alloc (by simp) _)
      have CO : Hid (CbB w2 wr.heap.size 112 (ocv q)) := Lib.hid (by
        have h1 : CbB (wr.alloc (.cells #[.int .i64 q.kd, .int .u32 (q.t : Int), .int .u16 (q.g : Int), .slice q.a q.n q.c] 112)) wr.heap.size 112 (ocv q) := CbB.new _ _ _
        rw [← hw2]
        exact h1.ab ((Below.refl _ _).alloc (Nat.le_refl _) _))
      have LO : Hid (Calls Try.prog 15 #[.slice (some ⟨wr.heap.size + 1, 0, none⟩) 1 1] w2 fun e w' => e = .returned (.bool (decide (4096 < q.n))) ∧ w2 = w') := Lib.hid (long1_any q.a q.n q.c (wr.heap.size + 1) w2 (by
        have h1 := CbB.new (wr.alloc (.cells #[.int .i64 q.kd, .int .u32 (q.t : Int), .int .u16 (q.g : Int), .slice q.a q.n q.c] 112)) 28 #[.slice q.a q.n q.c]
        rw [World.size_alloc] at h1
        rw [← hw2]
        exact h1))
      clear b1
      go_wp2_with fail
      refine LO.out.mono ?_
      rintro e w2' ⟨rfl, rfl⟩
      clear hw2 ac0 ac1 ac2 ac3 LO
      cases hlong : decide (4096 < q.n)
      case true =>
        have B2 := Lib.hid (below_tr HB.out D2.out HB.out.size)
        clear hlong
        go_wp2_with fail
        refine (known10_any _).mono ?_
        rintro e w6 ⟨rfl, hb⟩
        have B6 := Lib.hid (below_tr B2.out hb B2.out.size)
        clear hb
        go_wp2_with fail
        go_ret
        exact ⟨rfl, B6.out⟩
      have QN : Hid (q.n ≤ 4096) := Lib.hid (by have := of_decide_eq_false hlong; omega)
      clear hlong
      have o0 : w2.cell? ⟨wr.heap.size, 0, none⟩ = some (.int .i64 q.kd) := CO.out.cell (k := 0) rfl
      have o1 : w2.cell? ⟨wr.heap.size, 1, none⟩ = some (.int .u32 (q.t : Int)) := CO.out.cell (k := 1) rfl
      have o2 : w2.cell? ⟨wr.heap.size, 2, none⟩ = some (.int .u16 (q.g : Int)) := CO.out.cell (k := 2) rfl
      have o3 : w2.cell? ⟨wr.heap.size, 3, none⟩ = some (.slice q.a q.n q.c) := CO.out.cell (k := 3) rfl
      have B2 := Lib.hid (below_tr HB.out D2.out HB.out.size)
      have T2 := Lib.hid (HD.out.ab D2.out)
      have I2 := Lib.hid (IK.out.below B2.out)
      have O2 : Hid (wr.heap.size < w2.heap.size) := Lib.hid CO.out.lt
      have OB : Hid (w.heap.size ≤ wr.heap.size) := Lib.hid HB.out.size
      obtain ⟨idx, hidx⟩ := idx_of (q.t, q.g) l
      have HA : Hid (Calls Try.prog 49 #[.pointer (some ⟨g2, 0, none⟩), .int .u32 (q.t : Int), .int .u16 (q.g : Int)] w2 fun e w' => e = .returned (.int .i64 idx) ∧ w2 = w') := Lib.hid (by
        obtain ⟨_, v, us, h2⟩ := T2.out
        exact rat_any w.heap.size g2 q.t q.g v us l w2 h2 QT.out QG.out L200.out idx hidx)
      have HX := Lib.hid hidx
      clear hidx
      generalize wr.heap.size = ob at *
      by_cases k1 : q.kd = 1
      · rw [k1] at o0
        clear k1
        obtain ⟨⟨vs0, hE⟩, rv0, us0, hK⟩ := T2.out
        have HE := Lib.hid hE
        have HK := Lib.hid hK
        have LK := Lib.hid IK.out.len
        clear hE hK
        go_wp2_with (first
          | (go_at_call 49; refine HA.out.mono ?_; rintro e w3 ⟨rfl, rfl⟩)
          | (go_at_call 19
             refine (copy_own2 q.a q.n q.c q.k _ I2.out (by have := QN.out; omega)).mono ?_
             rintro e w4 ⟨cb, rfl, h1, h2, h3⟩
             have O4 := Lib.hid h1
             have B4 := Lib.hid (below_tr B2.out h2 B2.out.size)
             have S4 := Lib.hid h3
             have C4 := Lib.hid (CO.out.ab h2)
             have R4 : Hid (RgE w4 w.heap.size g m vs0 l) := Lib.hid (HE.out.fr (Fr.of h2 (fun _ => False)) id id (fun _ _ _ _ => id))
             have Q4 := Lib.hid (HK.out.ab h2)
             clear h1 h2 h3))
        refine wp_wide6 (fun W => Below w.heap.size w W ∧ CbB W ob 112 (ocv q) ∧ OwB W w2.heap.size (.slice (some ⟨w2.heap.size, 0, none⟩) q.n cb) q.k ∧ w2.heap.size < W.heap.size) (PreN 6 13 (fun W => ∃ vs, RgE W w.heap.size g m vs l ∧ NoX vs w2.heap.size) (fun W => ∃ v us, RkB W w.heap.size g2 v us l ∧ NoX us w2.heap.size)) (StepN 6 13 w.heap.size g m g2) [⟨79, IsR (.pointer (some ⟨g, 0, none⟩)), [], false⟩, ⟨80, IsR (.pointer (some ⟨ob, 1, none⟩)), [], false⟩, ⟨81, IsR (.int .u32 (q.t : Int)), [1], false⟩, ⟨82, IsR (.pointer (some ⟨ob, 2, none⟩)), [], false⟩, ⟨83, IsR (.int .u16 (q.g : Int)), [3], false⟩, ⟨84, IsR (.slice (some ⟨w2.heap.size, 0, none⟩) q.n cb), [], false⟩, ⟨85, (fun z W => z = .int .i64 ((addP (q.t, q.g) q.k l).1 : Int) ∧ ∃ vs, RgE W w.heap.size g m vs (addP (q.t, q.g) q.k l).2 ∧ NoX vs w2.heap.size), [0, 2, 4, 5], false⟩, ⟨86, IsR (.pointer (some ⟨ob, 1, none⟩)), [], false⟩, ⟨87, IsR (.int .u32 (q.t : Int)), [7], false⟩, ⟨88, IsR (.pointer (some ⟨ob, 2, none⟩)), [], false⟩, ⟨89, IsR (.int .u16 (q.g : Int)), [9], false⟩, ⟨90, IsR (.pointer (some ⟨ob, 3, none⟩)), [], false⟩, ⟨91, IsR (.slice q.a q.n q.c), [11], false⟩, ⟨92, (fun z W => z = .int .i64 ((addP (q.t, q.g) q.k l).1 : Int) ∧ ∃ v us, RkB W w.heap.size g2 v us (addP (q.t, q.g) q.k l).2 ∧ NoX us w2.heap.size), [8, 10, 12], false⟩] rfl (by kernel_rfl) (by kernel_rfl) rfl rfl (fun i j hij W W1 hs hp => ⟨fun e => by obtain ⟨vs, hv, hn⟩ := hp.1 e; exact ⟨vs, stepN_rg (by omega) hs hv, hn⟩, fun e => by obtain ⟨v, us, hv, hn⟩ := hp.2 e; exact ⟨v, us, stepN_rk (by omega) hs hv, hn⟩⟩) (fun i W W1 h1 h2 => ⟨stepN_below HG2.out h1 h2.1, stepN_op h1 h2.2.1, stepN_own h1 h2.2.2.1, Nat.lt_of_lt_of_le h2.2.2.2 (stepN_size h1)⟩) (fun i W => .inl (Below.refl _ _)) (fun j => ⟨fun _ => ⟨_, R4.out.fr (Fr.of (Below.refl _ _).drew (fun _ => False)) id id (fun _ _ _ _ => id), HE.out.vals.low (Nat.le_refl _)⟩, fun _ => ⟨_, _, Q4.out.ab (Below.refl _ _).drew, HK.out.vals.low (Nat.le_refl _)⟩⟩) ⟨B4.out.drew, C4.out.ab (Below.refl _ _).drew, O4.out.drew, S4.out⟩ ⟨?_, ?_, ?_, ?_, ?_, ?_, ?_, ?_, ?_, ?_, ?_, ?_, ?_, ?_, trivial⟩ ?_
        · refine ⟨rfl, fun j hj v W W1 h hs => h, fun a W hA hb hp hd => Takes.to6 (takes_plain rfl (yields_value _ ?_ rfl)) fun W1 h1 => .inl h1⟩
          have h3 : a.tmps[3]?.getD undef = .pointer (some ⟨g, 0, none⟩) := (eval_get a 3).trans ((hA.eval (by simp)).trans rfl)
          go_simp
        · refine ⟨rfl, fun j hj v W W1 h hs => h, fun a W hA hb hp hd => Takes.to6 (takes_plain rfl (yields_value _ ?_ rfl)) fun W1 h1 => .inl h1⟩
          have h6 : a.tmps[6]?.getD undef = .pointer (some ⟨ob, 0, none⟩) := (eval_get a 6).trans ((hA.eval (by simp)).trans rfl)
          go_simp
        · refine ⟨rfl, fun j hj v W W1 h hs => h, fun a W hA hb hp hd => Takes.to6 (takes_plain rfl (yields_value _ ?_ rfl)) fun W1 h1 => .inl h1⟩
          have h80 : a.tmps[80]?.getD undef = .pointer (some ⟨ob, 1, none⟩) := (eval_get a 80).trans (hd 1 (by simp) _ rfl)
          have hc : W.cell? ⟨ob, 1, none⟩ = some (.int .u32 (q.t : Int)) := hb.2.1.cell (k := 1) rfl
          go_simp
        · refine ⟨rfl, fun j hj v W W1 h hs => h, fun a W hA hb hp hd => Takes.to6 (takes_plain rfl (yields_value _ ?_ rfl)) fun W1 h1 => .inl h1⟩
          have h6 : a.tmps[6]?.getD undef = .pointer (some ⟨ob, 0, none⟩) := (eval_get a 6).trans ((hA.eval (by simp)).trans rfl)
          go_simp
        · refine ⟨rfl, fun j hj v W W1 h hs => h, fun a W hA hb hp hd => Takes.to6 (takes_plain rfl (yields_value _ ?_ rfl)) fun W1 h1 => .inl h1⟩
          have h82 : a.tmps[82]?.getD undef = .pointer (some ⟨ob, 2, none⟩) := (eval_get a 82).trans (hd 3 (by simp) _ rfl)
          have hc : W.cell? ⟨ob, 2, none⟩ = some (.int .u16 (q.g : Int)) := hb.2.1.cell (k := 2) rfl
          go_simp
        · refine ⟨rfl, fun j hj v W W1 h hs => h, fun a W hA hb hp hd => Takes.to6 (takes_plain rfl (yields_value _ ?_ rfl)) fun W1 h1 => .inl h1⟩
          have h8 : a.tmps[8]?.getD undef = .slice (some ⟨w2.heap.size, 0, none⟩) q.n cb := (eval_get a 8).trans ((hA.eval (by simp)).trans rfl)
          go_simp
        · refine ⟨rfl, fun j hj v W W1 h hs => ⟨h.1, by obtain ⟨vs, hv, hn⟩ := h.2; exact ⟨vs, stepN_rg hj hs hv, hn⟩⟩, fun a W hA hb hp hd => takes6_plain rfl ?_⟩
          have h79 : a.tmps[79]?.getD undef = .pointer (some ⟨g, 0, none⟩) := (eval_get a 79).trans (hd 0 (by simp) _ rfl)
          have h81 : a.tmps[81]?.getD undef = .int .u32 (q.t : Int) := (eval_get a 81).trans (hd 2 (by simp) _ rfl)
          have h83 : a.tmps[83]?.getD undef = .int .u16 (q.g : Int) := (eval_get a 83).trans (hd 4 (by simp) _ rfl)
          have h84 : a.tmps[84]?.getD undef = .slice (some ⟨w2.heap.size, 0, none⟩) q.n cb := (eval_get a 84).trans (hd 5 (by simp) _ rfl)
          obtain ⟨vs, hv, hn⟩ := hp.1 rfl
          refine .inr ⟨50, #[.pointer (some ⟨g, 0, none⟩), .int .u32 (q.t : Int), .int .u16 (q.g : Int), .slice (some ⟨w2.heap.size, 0, none⟩) q.n cb], by go_simp, (ringAdd_anyE w.heap.size g m q.t q.g q.n cb _ q.k vs l W hv QT.out QG.out (hb.2.2.1.isB LK.out) w2.heap.size hb.2.2.2 hn).mono ?_⟩
          rintro e W1 ⟨vs1, rfl, h1, h2, h3⟩
          exact ⟨_, rfl, ⟨rfl, vs1, h1, h2⟩, .inr (.inl ⟨rfl, ⟨_, hv.rgB⟩, h3⟩)⟩
        · refine ⟨rfl, fun j hj v W W1 h hs => h, fun a W hA hb hp hd => Takes.to6 (takes_plain rfl (yields_value _ ?_ rfl)) fun W1 h1 => .inl h1⟩
          have h6 : a.tmps[6]?.getD undef = .pointer (some ⟨ob, 0, none⟩) := (eval_get a 6).trans ((hA.eval (by simp)).trans rfl)
          go_simp
        · refine ⟨rfl, fun j hj v W W1 h hs => h, fun a W hA hb hp hd => Takes.to6 (takes_plain rfl (yields_value _ ?_ rfl)) fun W1 h1 => .inl h1⟩
          have h86 : a.tmps[86]?.getD undef = .pointer (some ⟨ob, 1, none⟩) := (eval_get a 86).trans (hd 7 (by simp) _ rfl)
          have hc : W.cell? ⟨ob, 1, none⟩ = some (.int .u32 (q.t : Int)) := hb.2.1.cell (k := 1) rfl
          go_simp
        · refine ⟨rfl, fun j hj v W W1 h hs => h, fun a W hA hb hp hd => Takes.to6 (takes_plain rfl (yields_value _ ?_ rfl)) fun W1 h1 => .inl h1⟩
          have h6 : a.tmps[6]?.getD undef = .pointer (some ⟨ob, 0, none⟩) := (eval_get a 6).trans ((hA.eval (by simp)).trans rfl)
          go_simp
        · refine ⟨rfl, fun j hj v W W1 h hs => h, fun a W hA hb hp hd => Takes.to6 (takes_plain rfl (yields_value _ ?_ rfl)) fun W1 h1 => .inl h1⟩
          have h88 : a.tmps[88]?.getD undef = .pointer (some ⟨ob, 2, none⟩) := (eval_get a 88).trans (hd 9 (by simp) _ rfl)
          have hc : W.cell? ⟨ob, 2, none⟩ = some (.int .u16 (q.g : Int)) := hb.2.1.cell (k := 2) rfl
          go_simp
        · refine ⟨rfl, fun j hj v W W1 h hs => h, fun a W hA hb hp hd => Takes.to6 (takes_plain rfl (yields_value _ ?_ rfl)) fun W1 h1 => .inl h1⟩
          have h6 : a.tmps[6]?.getD undef = .pointer (some ⟨ob, 0, none⟩) := (eval_get a 6).trans ((hA.eval (by simp)).trans rfl)
          go_simp
        · refine ⟨rfl, fun j hj v W W1 h hs => h, fun a W hA hb hp hd => Takes.to6 (takes_plain rfl (yields_value _ ?_ rfl)) fun W1 h1 => .inl h1⟩
          have h90 : a.tmps[90]?.getD undef = .pointer (some ⟨ob, 3, none⟩) := (eval_get a 90).trans (hd 11 (by simp) _ rfl)
          have hc : W.cell? ⟨ob, 3, none⟩ = some (.slice q.a q.n q.c) := hb.2.1.cell (k := 3) rfl
          go_simp
        · refine ⟨rfl, fun j hj v W W1 h hs => ⟨h.1, by obtain ⟨v, us, hv, hn⟩ := h.2; exact ⟨v, us, stepN_rk hj hs hv, hn⟩⟩, fun a W hA hb hp hd => takes6_plain rfl ?_⟩
          have h4 : a.tmps[4]?.getD undef = .pointer (some ⟨g2, 0, none⟩) := (eval_get a 4).trans ((hA.eval (by simp)).trans rfl)
          have h87 : a.tmps[87]?.getD undef = .int .u32 (q.t : Int) := (eval_get a 87).trans (hd 8 (by simp) _ rfl)
          have h89 : a.tmps[89]?.getD undef = .int .u16 (q.g : Int) := (eval_get a 89).trans (hd 10 (by simp) _ rfl)
          have h91 : a.tmps[91]?.getD undef = .slice q.a q.n q.c := (eval_get a 91).trans (hd 12 (by simp) _ rfl)
          obtain ⟨rv, us, hv, hn⟩ := hp.2 rfl
          refine .inr ⟨51, #[.pointer (some ⟨g2, 0, none⟩), .int .u32 (q.t : Int), .int .u16 (q.g : Int), .slice q.a q.n q.c], by go_simp, (rkAdd_farE w.heap.size g2 q.t q.g rv us l q.a q.n q.c q.k w W hv (Nat.le_refl _) QT.out QG.out L200.out IK.out (IK.out.below hb.1) w2.heap.size hb.2.2.2 hn).mono ?_⟩
          rintro e W1 ⟨v1, us1, rfl, h1, h2, h3⟩
          exact ⟨_, rfl, ⟨rfl, v1, us1, h1, h2⟩, .inr (.inr ⟨rfl, rv, us, l, hv, h3⟩)⟩
        intro vs w5 hR hb
        have e79 : vs 79 = .pointer (some ⟨g, 0, none⟩) := hR 0 _ rfl
        have e80 : vs 80 = .pointer (some ⟨ob, 1, none⟩) := hR 1 _ rfl
        have e81 : vs 81 = .int .u32 (q.t : Int) := hR 2 _ rfl
        have e82 : vs 82 = .pointer (some ⟨ob, 2, none⟩) := hR 3 _ rfl
        have e83 : vs 83 = .int .u16 (q.g : Int) := hR 4 _ rfl
        have e84 : vs 84 = .slice (some ⟨w2.heap.size, 0, none⟩) q.n cb := hR 5 _ rfl
        have e85 : vs 85 = .int .i64 ((addP (q.t, q.g) q.k l).1 : Int) := (hR 6 _ rfl).1
        have e86 : vs 86 = .pointer (some ⟨ob, 1, none⟩) := hR 7 _ rfl
        have e87 : vs 87 = .int .u32 (q.t : Int) := hR 8 _ rfl
        have e88 : vs 88 = .pointer (some ⟨ob, 2, none⟩) := hR 9 _ rfl
        have e89 : vs 89 = .int .u16 (q.g : Int) := hR 10 _ rfl
        have e90 : vs 90 = .pointer (some ⟨ob, 3, none⟩) := hR 11 _ rfl
        have e91 : vs 91 = .slice q.a q.n q.c := hR 12 _ rfl
        have e92 : vs 92 = .int .i64 ((addP (q.t, q.g) q.k l).1 : Int) := (hR 13 _ rfl).1
        simp only [List.map_cons, List.map_nil, List.foldl_cons, List.foldl_nil, List.length_cons, List.length_nil, List.drop_succ_cons, List.drop_zero, Act.put, List.setIfInBounds_toArray, List.set_cons_zero, List.set_cons_succ, e79, e80, e81, e82, e83, e84, e85, e86, e87, e88, e89, e90, e91, e92]
        obtain ⟨vr, hvr, hnr⟩ := (hR 6 _ rfl).2
        obtain ⟨rv, us, hvk, hnk⟩ := (hR 13 _ rfl).2
        have BX := Lib.hid hb.1
        have OX := Lib.hid (hb.2.2.1.lower B2.out.size)
        have RX := Lib.hid hvr
        have KX := Lib.hid hvk
        have XV := Lib.hid hnr
        have XU := Lib.hid hnk
        have XR : Hid (rv.ownBlock ≠ some w2.heap.size) := Lib.hid (row_own_ne hvk.own hb.2.2.1 (by decide) _ rfl)
        have XB : Hid (w.heap.size ≤ w2.heap.size) := Lib.hid B2.out.size
        have XG : Hid (w2.heap.size ≠ g) := Lib.hid (by have := HE.out.rgB.lt; omega)
        have XM : Hid (w2.heap.size ≠ m) := Lib.hid (by have := HE.out.rgB.mlt; omega)
        have XG2 : Hid (w2.heap.size ≠ g2) := Lib.hid (by have := HK.out.box.lt; omega)
        have LL2 : Hid ((addP (q.t, q.g) q.k l).2.length ≤ i + 1) := Lib.hid (by have := LL.out; have := addP_len1 (q.t, q.g) q.k l; omega)
        have hnb1 : (q.n : Int) ≤ 4096 := by have := QN.out; omega
        clear hR hb hvr hvk hnr hnk
        obtain ⟨l2, hl2⟩ : ∃ l2, l2 = (addP (q.t, q.g) q.k l).2 := ⟨_, rfl⟩
        rw [← hl2] at RX KX LL2
        clear hl2
        have LB := Lib.hid LK.out
        generalize w2.heap.size = X at *
        go_wp2_with fail
        obtain ⟨nb, hnb⟩ : ∃ nb, nb = q.n := ⟨_, rfl⟩
        rw [← hnb] at LB OX hnb1 ⊢
        clear hnb
        generalize vs = vz at *
        obtain ⟨vs, hvs⟩ : ∃ vs, vs = vr := ⟨_, rfl⟩
        rw [← hvs] at RX XV
        clear hvs
        generalize wr = wo at *
        go_loopw [96] (fun z wx => ∃ (j : Nat) (b : List Nat), j ≤ nb ∧ z = .int .i64 (j : Int) ∧ b.length = nb ∧ OwB wx w.heap.size (.slice (some ⟨X, 0, none⟩) nb cb) b ∧ RgE wx w.heap.size g m vs l2 ∧ RkB wx w.heap.size g2 rv us l2 ∧ Below w.heap.size w wx) (fun z _ => nb - (intOf z).toNat)
        case atStart => exact ⟨0, _, Nat.zero_le _, rfl, LB.out, OX.out, RX.out, KX.out, BX.out⟩
        case round =>
          obtain ⟨j, b, hj, rfl, hbl, hob, hrg, hrk, hbx⟩ := hrel
          by_cases hjl : j < nb
          · have hjlt : (j : Int) < (nb : Int) := by omega
            have HJ := Lib.hid hjl
            have hcx := hob.rw j (by omega)
            have hfx := hob.free hbl j
            have hx8 : at' b j < 256 := Byt.at' hob.byt j
            obtain ⟨tx, htx⟩ : ∃ tx, tx = at' b j := ⟨_, rfl⟩
            rw [← htx] at hcx hx8
            have hxb : bits .xor .u8 (tx : Int) 255 = ((tx ^^^ 255 : Nat) : Int) := bits_xor_u8 tx 255 hx8 (by decide)
            have hxx : tx ^^^ 255 < 256 := Nat.xor_lt_two_pow (n := 8) hx8 (by decide)
            have hgc := Fr.grown (grown_cell wr X j (.int .u8 ((tx ^^^ 255 : Nat) : Int)))
            have NB := Lib.hid (hob.store hbl (k := j) hxx)
            have NR := Lib.hid (hrg.fr hgc (fun e => XG.out (Option.some.inj e)) (fun e => XM.out (Option.some.inj e)) (fun p hp y hy e => by injection e with e; subst e; exact XV.out p hp hy))
            have NK := Lib.hid (hrk.frN hgc (fun e => XG2.out (Option.some.inj e)) (fun y hy e => by injection e with e; subst e; exact XR.out hy) (fun p hp y hy e => by injection e with e; subst e; exact XU.out p hp hy))
            have BN := Lib.hid (hbx.setCell (show w.heap.size ≤ (⟨X, j, none⟩ : Addr).block from XB.out) (.int .u8 ((tx ^^^ 255 : Nat) : Int)))
            have BL := Lib.hid hbl
            clear hj hbl hob hrg hrk hbx hjl htx hgc
            go_wp2_with fail
            go_roundw
            case rel => exact ⟨j + 1, _, HJ.out, by go_num, by rw [List.length_set]; exact BL.out, NB.out, NR.out, NK.out, BN.out⟩
            case measure => simp [intOf]; have := HJ.out; omega
          · obtain rfl : j = nb := by omega
            have DX : Hid (Duo w.heap.size g m g2 l2 wr) := Lib.hid ⟨⟨_, hrg⟩, _, _, hrk⟩
            have BX2 := Lib.hid hbx
            clear hj hbl hob hrg hrk hbx hjl
            go_wp2_with fail
            go_roundw
            case rel => exact ⟨i + 1, l2, HL.out, by go_num, LL2.out, DX.out, BX2.out⟩
            case measure => simp [intOf]; have := HL.out; omega
      by_cases k2 : q.kd = 2
      · rw [k2] at o0
        clear k1 k2
        obtain ⟨⟨vs, hE⟩, rv, us, hK⟩ := T2.out
        cases hs : getR (q.t, q.g) l with
        | none =>
          have hidx : idx = -1 := by
            rcases HX.out with ⟨h, _⟩ | ⟨i', k, h2, h3, h4⟩
            · exact h
            · exact absurd rfl (getR_none.1 hs _ (List.mem_of_getElem? h3))
          subst hidx
          have HKP : Hid (keyP (q.t, q.g) l = ([], 7)) := Lib.hid (by unfold keyP; rw [hs])
          clear hs hE hK HX
          go_wp2_with (first
            | (go_at_call 49; refine HA.out.mono ?_; rintro e w3 ⟨rfl, rfl⟩)
            | (go_at_call 52
               refine (ringKey_any w.heap.size g m q.t q.g l _ T2.out.1.choose_spec.rgB QT.out QG.out).mono ?_
               rw [HKP.out]
               rintro e w4 ⟨v, rfl, h1, h2⟩
               obtain ⟨Av, cv, rfl, _, _⟩ := h1.shape
               have B4 := Lib.hid (below_tr B2.out h2 B2.out.size)
               have T4 := Lib.hid (T2.out.ab h2)
               clear h1 h2))
          refine wp_loop_rounds 1 ?_
          rw [rounds_succ]
          go_wp2_with fail
          go_roundw
          case rel => exact ⟨i + 1, l, HL.out, by go_num, by have := LL.out; omega, T4.out, B4.out⟩
          case measure => simp [intOf]; have := HL.out; omega
        | some k =>
          obtain ⟨j0, hidx, hj0⟩ : ∃ j0 : Nat, idx = (j0 : Int) ∧ l[j0]? = some ((q.t, q.g), k) := by
            rcases HX.out with ⟨_, h⟩ | ⟨i', k', h2, h3, h4⟩
            · rw [hs] at h; cases h
            · obtain ⟨i1, h5, _⟩ := getR_idx hs
              have h6 := nodup_at T2.out.nodup h3 h5 rfl
              subst h6
              exact ⟨_, h2, h5⟩
          subst hidx
          have HKP : Hid (keyP (q.t, q.g) l = (k, 0)) := Lib.hid (by unfold keyP; rw [hs])
          have hk32 := hE.ne _ (getR_mem hs)
          have hjl0 : j0 < l.length := (List.getElem?_eq_some_iff.1 hj0).1
          obtain ⟨gb, cap, rfl, hgb, hgl, hnc, hcm, hce⟩ := hK.form (by omega)
          obtain ⟨u, _, _, hu2, hou⟩ := hce j0 _ hj0
          obtain ⟨Au, cu, rfl, _, _⟩ := hou.shape
          have HE := Lib.hid hE
          have HK := Lib.hid hK
          have HU := Lib.hid hou
          have HU2 := Lib.hid hu2
          have GL := Lib.hid hgl
          have HK3 : Hid (k.length ≤ 32 ∧ 0 < k.length) := Lib.hid (by unfold KeyOk at hk32; simp only at hk32; omega)
          have hj1 : ¬ (j0 : Int) < 0 := by omega
          have hj2 : (j0 : Int) < (l.length : Int) := by omega
          have hj3 : (l.length : Int) ≤ 1000 := by have := L200.out; omega
          have hj4 : max (j0 : Int) 0 = (j0 : Int) := by omega
          clear hs hE hK HX hk32 hjl0 hgb hgl hnc hcm hce hu2 hou hj0
          go_wp2_with (first
            | (go_at_call 49; refine HA.out.mono ?_; rintro e w3 ⟨rfl, rfl⟩)
            | (go_at_call 52
               refine (ringKey_any w.heap.size g m q.t q.g l _ HE.out.rgB QT.out QG.out).mono ?_
               rw [HKP.out]
               rintro e w4 ⟨v, rfl, h1, h2⟩
               obtain ⟨X, cb, rfl, hX1, hX2, hX3, hX4⟩ := h1.form HK3.out.2
               have BX := Lib.hid (below_tr B2.out h2 B2.out.size)
               have RX : Hid (RgE w4 w.heap.size g m vs l) := Lib.hid (HE.out.fr (Fr.of h2 (fun _ => False)) id id (fun _ _ _ _ => id))
               have KX := Lib.hid (HK.out.ab h2)
               have OX := Lib.hid (h1.lower B2.out.size)
               have XB : Hid (w.heap.size ≤ X) := Lib.hid (Nat.le_trans B2.out.size hX1)
               have XG : Hid (X ≠ g) := Lib.hid (by have := HE.out.rgB.lt; omega)
               have XM : Hid (X ≠ m) := Lib.hid (by have := HE.out.rgB.mlt; omega)
               have XG2 : Hid (X ≠ g2) := Lib.hid (by have := HK.out.box.lt; omega)
               have XR : Hid (Value.ownBlock (.slice (some ⟨gb, 0, none⟩) l.length cap) ≠ some X) := Lib.hid (by intro e; injection e with e; have := GL.out; simp at e; omega)
               have XV := Lib.hid (HE.out.vals.low hX1)
               have XU := Lib.hid (HK.out.vals.low hX1)
               have p0 : w4.cell? ⟨g2, 0, none⟩ = some (.slice (some ⟨gb, 0, none⟩) l.length cap) := KX.out.box.cell (k := 0) rfl
               have p2 : w4.cell? ⟨gb, j0 * 3 + 2, none⟩ = some (.slice Au k.length cu) := (h2.cell (show (⟨gb, j0 * 3 + 2, none⟩ : Addr).block < w2.heap.size from GL.out)).trans HU2.out
               have SM : Hid (Calls Try.prog 18 #[.slice (some ⟨X, 0, none⟩) k.length cb, .slice Au k.length cu] w4 fun e w' => e = .returned (.bool true) ∧ w4 = w') := Lib.hid (by
                 have := same_any _ _ _ _ _ _ _ _ w4 (h1.isB rfl) ((HU.out.ab h2).isB rfl)
                 rwa [decide_eq_true rfl] at this)
               clear h1 h2 hX1 hX2 hX3 hX4)
            | (go_at_call 18
               refine SM.out.mono ?_
               rintro e w5 ⟨rfl, rfl⟩))
          obtain ⟨nb, hnb⟩ : ∃ nb, nb = k.length := ⟨_, rfl⟩
          have hnb1 : (nb : Int) ≤ 32 := by have := HK3.out; omega
          have LB : Hid (k.length = nb) := Lib.hid hnb.symm
          rw [← hnb] at OX ⊢
          clear hnb
          obtain ⟨rv, hrv⟩ : ∃ rv, rv = Value.slice (some ⟨gb, 0, none⟩) l.length cap := ⟨_, rfl⟩
          rw [← hrv] at KX XR
          clear hrv
          obtain ⟨l2, hl2⟩ : ∃ l2, l2 = l := ⟨_, rfl⟩
          have LL2 : Hid (l2.length ≤ i + 1) := Lib.hid (by rw [hl2]; have := LL.out; omega)
          rw [← hl2] at RX KX
          clear hl2
          generalize wr = wo at *
          go_loopw [150] (fun z wx => ∃ (j : Nat) (b : List Nat), j ≤ nb ∧ z = .int .i64 (j : Int) ∧ b.length = nb ∧ OwB wx w.heap.size (.slice (some ⟨X, 0, none⟩) nb cb) b ∧ RgE wx w.heap.size g m vs l2 ∧ RkB wx w.heap.size g2 rv us l2 ∧ Below w.heap.size w wx) (fun z _ => nb - (intOf z).toNat)
          case atStart => exact ⟨0, _, Nat.zero_le _, rfl, LB.out, OX.out, RX.out, KX.out, BX.out⟩
          case round =>
            obtain ⟨j, b, hj, rfl, hbl, hob, hrg, hrk, hbx⟩ := hrel
            by_cases hjl : j < nb
            · have hjlt : (j : Int) < (nb : Int) := by omega
              have HJ := Lib.hid hjl
              have hcx := hob.rw j (by omega)
              have hfx := hob.free hbl j
              have hx8 : at' b j < 256 := Byt.at' hob.byt j
              obtain ⟨tx, htx⟩ : ∃ tx, tx = at' b j := ⟨_, rfl⟩
              rw [← htx] at hcx hx8
              have hxb : bits .xor .u8 (tx : Int) 255 = ((tx ^^^ 255 : Nat) : Int) := bits_xor_u8 tx 255 hx8 (by decide)
              have hxx : tx ^^^ 255 < 256 := Nat.xor_lt_two_pow (n := 8) hx8 (by decide)
              have hgc := Fr.grown (grown_cell wr X j (.int .u8 ((tx ^^^ 255 : Nat) : Int)))
              have NB := Lib.hid (hob.store hbl (k := j) hxx)
              have NR := Lib.hid (hrg.fr hgc (fun e => XG.out (Option.some.inj e)) (fun e => XM.out (Option.some.inj e)) (fun p hp y hy e => by injection e with e; subst e; exact XV.out p hp hy))
              have NK := Lib.hid (hrk.frN hgc (fun e => XG2.out (Option.some.inj e)) (fun y hy e => by injection e with e; subst e; exact XR.out hy) (fun p hp y hy e => by injection e with e; subst e; exact XU.out p hp hy))
              have BN := Lib.hid (hbx.setCell (show w.heap.size ≤ (⟨X, j, none⟩ : Addr).block from XB.out) (.int .u8 ((tx ^^^ 255 : Nat) : Int)))
              have BL := Lib.hid hbl
              clear hj hbl hob hrg hrk hbx hjl htx hgc
              go_wp2_with fail
              go_roundw
              case rel => exact ⟨j + 1, _, HJ.out, by go_num, by rw [List.length_set]; exact BL.out, NB.out, NR.out, NK.out, BN.out⟩
              case measure => simp [intOf]; have := HJ.out; omega
            · obtain rfl : j = nb := by omega
              have DX : Hid (Duo w.heap.size g m g2 l2 wr) := Lib.hid ⟨⟨_, hrg⟩, _, _, hrk⟩
              have BX2 := Lib.hid hbx
              clear hj hbl hob hrg hrk hbx hjl
              go_wp2_with fail
              go_roundw
              case rel => exact ⟨i + 1, l2, HL.out, by go_num, LL2.out, DX.out, BX2.out⟩
              case measure => simp [intOf]; have := HL.out; omega
      by_cases k3 : q.kd = 3
      · rw [k3] at o0
        clear k1 k2 k3
        have HLT : Hid ((gensTo q.t l 65536).length ≤ 1000) := Lib.hid (Nat.le_trans (gensTo_len T2.out.nodup) L200.out)
        have HGN := Lib.hid (gens_ref (t := q.t) T2.out.nodup T2.out.oks)
        obtain ⟨L, hL⟩ : ∃ L, L = gensTo q.t l 65536 := ⟨_, rfl⟩
        have HLL := Lib.hid hL.symm
        rw [← hL] at HLT HGN
        clear hL
        rcases List.eq_nil_or_concat L with rfl | ⟨r, y, rfl⟩
        · have HNP : Hid (newP q.t l = (0, 7)) := Lib.hid (by unfold newP; rw [HGN.out]; rfl)
          clear HX
          go_wp2_with (first
            | (go_at_call 49; refine HA.out.mono ?_; rintro e w3 ⟨rfl, rfl⟩)
            | (go_at_call 53
               refine (newest_any w.heap.size g m q.t l _ T2.out.1.choose_spec.rgB QT.out L200.out).mono ?_
               rw [HNP.out]
               rintro e w4 ⟨rfl, hb⟩
               have B4 := Lib.hid (below_tr B2.out hb B2.out.size)
               have T4 := Lib.hid (T2.out.ab hb)
               have p1 : w4.cell? ⟨ob, 1, none⟩ = some (.int .u32 (q.t : Int)) := (CO.out.ab hb).cell (k := 1) rfl
               clear hb)
            | (go_at_call 54
               refine (rgens_any w.heap.size g2 q.t _ _ l _ T4.out.2.choose_spec.choose_spec QT.out L200.out T4.out.nodup).mono ?_
               rw [HLL.out]
               rintro e w5 ⟨v, rfl, h1, h2⟩
               have B5 := Lib.hid (below_tr B4.out h2 B4.out.size)
               have T5 := Lib.hid (T4.out.ab h2)
               obtain ⟨A1, c1, rfl, hf1⟩ := h1.form
               clear h1 h2 hf1))
          go_roundw
          case rel => exact ⟨i + 1, l, HL.out, by go_num, by have := LL.out; omega, T5.out, B5.out⟩
          case measure => simp [intOf]; have := HL.out; omega
        · have HNP : Hid (newP q.t l = (y, 0)) := Lib.hid (by unfold newP; rw [HGN.out, show (r.concat y).getLast? = some y by simp])
          obtain ⟨k, hk⟩ : ∃ k, k = r.length := ⟨_, rfl⟩
          have HLE : Hid ((r.concat y).length = k + 1) := Lib.hid (by rw [hk]; simp)
          have HXY : Hid (∀ (hi : k < (r.concat y).length), (r.concat y)[k] = y) := Lib.hid fun hi => by simp [hk]
          have hkb : (k : Int) ≤ 1000 := by have := HLT.out; have := HLE.out; omega
          clear hk
          clear HX
          go_wp2_with (first
            | (go_at_call 49; refine HA.out.mono ?_; rintro e w3 ⟨rfl, rfl⟩)
            | (go_at_call 53
               refine (newest_any w.heap.size g m q.t l _ T2.out.1.choose_spec.rgB QT.out L200.out).mono ?_
               rw [HNP.out]
               rintro e w4 ⟨rfl, hb⟩
               have B4 := Lib.hid (below_tr B2.out hb B2.out.size)
               have T4 := Lib.hid (T2.out.ab hb)
               have p1 : w4.cell? ⟨ob, 1, none⟩ = some (.int .u32 (q.t : Int)) := (CO.out.ab hb).cell (k := 1) rfl
               clear hb)
            | (go_at_call 54
               refine (rgens_any w.heap.size g2 q.t _ _ l _ T4.out.2.choose_spec.choose_spec QT.out L200.out T4.out.nodup).mono ?_
               rw [HLL.out]
               rintro e w5 ⟨v, rfl, h1, h2⟩
               have B5 := Lib.hid (below_tr B4.out h2 B4.out.size)
               have T5 := Lib.hid (T4.out.ab h2)
               obtain ⟨A1, c1, rfl, hf1⟩ := h1.form
               obtain ⟨g7, rfl, hc7⟩ := hf1 k (by rw [HLE.out]; omega)
               rw [HXY.out] at hc7
               rw [HLE.out]
               clear h1 h2 hf1))
          go_roundw
          case rel => exact ⟨i + 1, l, HL.out, by go_num, by have := LL.out; omega, T5.out, B5.out⟩
          case measure => simp [intOf]; have := HL.out; omega
      by_cases k4 : q.kd = 4
      · rw [k4] at o0
        clear k1 k2 k3 k4
        go_wp2_with (first | (go_at_call 49; refine HA.out.mono ?_; rintro e w3 ⟨rfl, rfl⟩))
        refine wp_wide6 (fun W => Below w.heap.size w W ∧ CbB W ob 112 (ocv q)) (PreN 5 10 (fun W => ∃ vs, RgE W w.heap.size g m vs l) (fun W => ∃ v us, RkB W w.heap.size g2 v us l)) (StepN 5 10 w.heap.size g m g2) [⟨204, IsR (.pointer (some ⟨g, 0, none⟩)), [], false⟩, ⟨205, IsR (.pointer (some ⟨ob, 1, none⟩)), [], false⟩, ⟨206, IsR (.int .u32 (q.t : Int)), [1], false⟩, ⟨207, IsR (.pointer (some ⟨ob, 2, none⟩)), [], false⟩, ⟨208, IsR (.int .u16 (q.g : Int)), [3], false⟩, ⟨209, (fun z W => z = .int .i64 ((dropR (q.t, q.g) l).1 : Int) ∧ ∃ vs, RgE W w.heap.size g m vs (dropR (q.t, q.g) l).2), [0, 2, 4], false⟩, ⟨210, IsR (.pointer (some ⟨ob, 1, none⟩)), [], false⟩, ⟨211, IsR (.int .u32 (q.t : Int)), [6], false⟩, ⟨212, IsR (.pointer (some ⟨ob, 2, none⟩)), [], false⟩, ⟨213, IsR (.int .u16 (q.g : Int)), [8], false⟩, ⟨214, (fun z W => z = .int .i64 ((dropR (q.t, q.g) l).1 : Int) ∧ ∃ v us, RkB W w.heap.size g2 v us (dropR (q.t, q.g) l).2), [7, 9], false⟩] rfl (by kernel_rfl) (by kernel_rfl) rfl rfl (fun i j hij W W1 hs hp => ⟨fun e => by obtain ⟨vs, hv⟩ := hp.1 e; exact ⟨vs, stepN_rg (by omega) hs hv⟩, fun e => by obtain ⟨v, us, hv⟩ := hp.2 e; exact ⟨v, us, stepN_rk (by omega) hs hv⟩⟩) (fun i W W1 h1 h2 => ⟨stepN_below HG2.out h1 h2.1, stepN_op h1 h2.2⟩) (fun i W => .inl (Below.refl _ _)) (fun j => ⟨fun _ => (T2.out.ab (Below.refl _ _).drew).1, fun _ => (T2.out.ab (Below.refl _ _).drew).2⟩) ⟨B2.out.drew, CO.out.ab (Below.refl _ _).drew⟩ ⟨?_, ?_, ?_, ?_, ?_, ?_, ?_, ?_, ?_, ?_, ?_, trivial⟩ ?_
        · refine ⟨rfl, fun j hj v W W1 h hs => h, fun a W hA hb hp hd => Takes.to6 (takes_plain rfl (yields_value _ ?_ rfl)) fun W1 h1 => .inl h1⟩
          have h3 : a.tmps[3]?.getD undef = .pointer (some ⟨g, 0, none⟩) := (eval_get a 3).trans ((hA.eval (by simp)).trans rfl)
          go_simp
        · refine ⟨rfl, fun j hj v W W1 h hs => h, fun a W hA hb hp hd => Takes.to6 (takes_plain rfl (yields_value _ ?_ rfl)) fun W1 h1 => .inl h1⟩
          have h6 : a.tmps[6]?.getD undef = .pointer (some ⟨ob, 0, none⟩) := (eval_get a 6).trans ((hA.eval (by simp)).trans rfl)
          go_simp
        · refine ⟨rfl, fun j hj v W W1 h hs => h, fun a W hA hb hp hd => Takes.to6 (takes_plain rfl (yields_value _ ?_ rfl)) fun W1 h1 => .inl h1⟩
          have h205 : a.tmps[205]?.getD undef = .pointer (some ⟨ob, 1, none⟩) := (eval_get a 205).trans (hd 1 (by simp) _ rfl)
          have hc : W.cell? ⟨ob, 1, none⟩ = some (.int .u32 (q.t : Int)) := hb.2.cell (k := 1) rfl
          go_simp
        · refine ⟨rfl, fun j hj v W W1 h hs => h, fun a W hA hb hp hd => Takes.to6 (takes_plain rfl (yields_value _ ?_ rfl)) fun W1 h1 => .inl h1⟩
          have h6 : a.tmps[6]?.getD undef = .pointer (some ⟨ob, 0, none⟩) := (eval_get a 6).trans ((hA.eval (by simp)).trans rfl)
          go_simp
        · refine ⟨rfl, fun j hj v W W1 h hs => h, fun a W hA hb hp hd => Takes.to6 (takes_plain rfl (yields_value _ ?_ rfl)) fun W1 h1 => .inl h1⟩
          have h207 : a.tmps[207]?.getD undef = .pointer (some ⟨ob, 2, none⟩) := (eval_get a 207).trans (hd 3 (by simp) _ rfl)
          have hc : W.cell? ⟨ob, 2, none⟩ = some (.int .u16 (q.g : Int)) := hb.2.cell (k := 2) rfl
          go_simp
        · refine ⟨rfl, fun j hj v W W1 h hs => ⟨h.1, by obtain ⟨vs, hv⟩ := h.2; exact ⟨vs, stepN_rg hj hs hv⟩⟩, fun a W hA hb hp hd => takes6_plain rfl ?_⟩
          have h204 : a.tmps[204]?.getD undef = .pointer (some ⟨g, 0, none⟩) := (eval_get a 204).trans (hd 0 (by simp) _ rfl)
          have h206 : a.tmps[206]?.getD undef = .int .u32 (q.t : Int) := (eval_get a 206).trans (hd 2 (by simp) _ rfl)
          have h208 : a.tmps[208]?.getD undef = .int .u16 (q.g : Int) := (eval_get a 208).trans (hd 4 (by simp) _ rfl)
          obtain ⟨vs, hv⟩ := hp.1 rfl
          refine .inr ⟨55, #[.pointer (some ⟨g, 0, none⟩), .int .u32 (q.t : Int), .int .u16 (q.g : Int)], by go_simp, (ringDrop_any w.heap.size g m q.t q.g l W hv.rgB QT.out QG.out).mono ?_⟩
          rintro e W1 ⟨rfl, h1, h2⟩
          exact ⟨_, rfl, ⟨rfl, h1.rgE⟩, .inr (.inl ⟨rfl, ⟨_, hv.rgB⟩, h2⟩)⟩
        · refine ⟨rfl, fun j hj v W W1 h hs => h, fun a W hA hb hp hd => Takes.to6 (takes_plain rfl (yields_value _ ?_ rfl)) fun W1 h1 => .inl h1⟩
          have h6 : a.tmps[6]?.getD undef = .pointer (some ⟨ob, 0, none⟩) := (eval_get a 6).trans ((hA.eval (by simp)).trans rfl)
          go_simp
        · refine ⟨rfl, fun j hj v W W1 h hs => h, fun a W hA hb hp hd => Takes.to6 (takes_plain rfl (yields_value _ ?_ rfl)) fun W1 h1 => .inl h1⟩
          have h210 : a.tmps[210]?.getD undef = .pointer (some ⟨ob, 1, none⟩) := (eval_get a 210).trans (hd 6 (by simp) _ rfl)
          have hc : W.cell? ⟨ob, 1, none⟩ = some (.int .u32 (q.t : Int)) := hb.2.cell (k := 1) rfl
          go_simp
        · refine ⟨rfl, fun j hj v W W1 h hs => h, fun a W hA hb hp hd => Takes.to6 (takes_plain rfl (yields_value _ ?_ rfl)) fun W1 h1 => .inl h1⟩
          have h6 : a.tmps[6]?.getD undef = .pointer (some ⟨ob, 0, none⟩) := (eval_get a 6).trans ((hA.eval (by simp)).trans rfl)
          go_simp
        · refine ⟨rfl, fun j hj v W W1 h hs => h, fun a W hA hb hp hd => Takes.to6 (takes_plain rfl (yields_value _ ?_ rfl)) fun W1 h1 => .inl h1⟩
          have h212 : a.tmps[212]?.getD undef = .pointer (some ⟨ob, 2, none⟩) := (eval_get a 212).trans (hd 8 (by simp) _ rfl)
          have hc : W.cell? ⟨ob, 2, none⟩ = some (.int .u16 (q.g : Int)) := hb.2.cell (k := 2) rfl
          go_simp
        · refine ⟨rfl, fun j hj v W W1 h hs => ⟨h.1, by obtain ⟨v, us, hv⟩ := h.2; exact ⟨v, us, stepN_rk hj hs hv⟩⟩, fun a W hA hb hp hd => takes6_plain rfl ?_⟩
          have h4 : a.tmps[4]?.getD undef = .pointer (some ⟨g2, 0, none⟩) := (eval_get a 4).trans ((hA.eval (by simp)).trans rfl)
          have h211 : a.tmps[211]?.getD undef = .int .u32 (q.t : Int) := (eval_get a 211).trans (hd 7 (by simp) _ rfl)
          have h213 : a.tmps[213]?.getD undef = .int .u16 (q.g : Int) := (eval_get a 213).trans (hd 9 (by simp) _ rfl)
          obtain ⟨rv, us, hv⟩ := hp.2 rfl
          refine .inr ⟨56, #[.pointer (some ⟨g2, 0, none⟩), .int .u32 (q.t : Int), .int .u16 (q.g : Int)], by go_simp, (rkDrop_any w.heap.size g2 q.t q.g rv us l W hv QT.out QG.out L200.out T2.out.nodup).mono ?_⟩
          rintro e W1 ⟨v1, us1, rfl, h1, h2⟩
          exact ⟨_, rfl, ⟨rfl, v1, us1, h1⟩, .inr (.inr ⟨rfl, rv, us, l, hv, h2.imp fun k hk => .inl hk⟩)⟩
        intro vs w5 hR hb
        have e204 : vs 204 = .pointer (some ⟨g, 0, none⟩) := hR 0 _ rfl
        have e205 : vs 205 = .pointer (some ⟨ob, 1, none⟩) := hR 1 _ rfl
        have e206 : vs 206 = .int .u32 (q.t : Int) := hR 2 _ rfl
        have e207 : vs 207 = .pointer (some ⟨ob, 2, none⟩) := hR 3 _ rfl
        have e208 : vs 208 = .int .u16 (q.g : Int) := hR 4 _ rfl
        have e209 : vs 209 = .int .i64 ((dropR (q.t, q.g) l).1 : Int) := (hR 5 _ rfl).1
        have e210 : vs 210 = .pointer (some ⟨ob, 1, none⟩) := hR 6 _ rfl
        have e211 : vs 211 = .int .u32 (q.t : Int) := hR 7 _ rfl
        have e212 : vs 212 = .pointer (some ⟨ob, 2, none⟩) := hR 8 _ rfl
        have e213 : vs 213 = .int .u16 (q.g : Int) := hR 9 _ rfl
        have e214 : vs 214 = .int .i64 ((dropR (q.t, q.g) l).1 : Int) := (hR 10 _ rfl).1
        simp only [List.map_cons, List.map_nil, List.foldl_cons, List.foldl_nil, List.length_cons, List.length_nil, List.drop_succ_cons, List.drop_zero, Act.put, List.setIfInBounds_toArray, List.set_cons_zero, List.set_cons_succ, e204, e205, e206, e207, e208, e209, e210, e211, e212, e213, e214]
        have B5 := Lib.hid hb.1
        have T5 : Hid (Duo w.heap.size g m g2 (dropR (q.t, q.g) l).2 w5) := Lib.hid ⟨(hR 5 _ rfl).2, (hR 10 _ rfl).2⟩
        have DL : Hid ((dropR (q.t, q.g) l).2.length ≤ l.length) := Lib.hid (by
          unfold dropR
          cases getR (q.t, q.g) l with
          | none => exact Nat.le_refl _
          | some k => exact List.length_filter_le _ _)
        clear hR hb
        go_wp2_with fail
        go_roundw
        case rel => exact ⟨i + 1, _, HL.out, by go_num, by have := LL.out; have := DL.out; omega, T5.out, B5.out⟩
        case measure => simp [intOf]; have := HL.out; omega
      have e1 : (q.kd == (1 : Int)) = false := by simpa using k1
      have e2 : (q.kd == (2 : Int)) = false := by simpa using k2
      have e3 : (q.kd == (3 : Int)) = false := by simpa using k3
      have e4 : (q.kd == (4 : Int)) = false := by simpa using k4
      clear k1 k2 k3 k4
      go_wp2_with (first | (go_at_call 49; refine HA.out.mono ?_; rintro e w3 ⟨rfl, rfl⟩))
      refine wp_wide3 [⟨47, IsR (.pointer (some ⟨g, 0, none⟩)), [], false⟩, ⟨48, IsR (.pointer (some ⟨ob, 1, none⟩)), [], false⟩, ⟨49, IsR (.int .u32 (q.t : Int)), [1], false⟩, ⟨50, NsR w.heap.size (gensTo q.t l 65536), [0, 2], false⟩, ⟨51, IsR (.pointer (some ⟨ob, 1, none⟩)), [], false⟩, ⟨52, IsR (.int .u32 (q.t : Int)), [4], false⟩, ⟨53, NsR w.heap.size (gensTo q.t l 65536), [5], false⟩] (by kernel_rfl) (by kernel_rfl) rfl rfl rfl ⟨?_, ?_, ?_, ?_, ?_, ?_, ?_, trivial⟩ ?_
      · refine ⟨rfl, IsR.mono _, fun a W hA hb hd => takes_plain rfl (yields_value _ ?_ rfl)⟩
        have h3 : a.tmps[3]?.getD undef = .pointer (some ⟨g, 0, none⟩) := (eval_get a 3).trans ((hA.eval (by simp)).trans rfl)
        go_simp
      · refine ⟨rfl, IsR.mono _, fun a W hA hb hd => takes_plain rfl (yields_value _ ?_ rfl)⟩
        have h6 : a.tmps[6]?.getD undef = .pointer (some ⟨ob, 0, none⟩) := (eval_get a 6).trans ((hA.eval (by simp)).trans rfl)
        go_simp
      · refine ⟨rfl, IsR.mono _, fun a W hA hb hd => takes_plain rfl (yields_value _ ?_ rfl)⟩
        have h48 : a.tmps[48]?.getD undef = .pointer (some ⟨ob, 1, none⟩) := (eval_get a 48).trans (hd 1 (by simp) _ rfl)
        have hc : W.cell? ⟨ob, 1, none⟩ = some (.int .u32 (q.t : Int)) := (CO.out.ab hb).cell (k := 1) rfl
        go_simp
      · refine ⟨rfl, NsR.mono _ _, fun a W hA hb hd => takes_plain rfl ?_⟩
        have h47 : a.tmps[47]?.getD undef = .pointer (some ⟨g, 0, none⟩) := (eval_get a 47).trans (hd 0 (by simp) _ rfl)
        have h49 : a.tmps[49]?.getD undef = .int .u32 (q.t : Int) := (eval_get a 49).trans (hd 2 (by simp) _ rfl)
        refine yields_call 57 #[.pointer (some ⟨g, 0, none⟩), .int .u32 (q.t : Int)] (by go_simp) ((gens_any w.heap.size g m q.t l W (T2.out.ab hb).1.choose_spec.rgB QT.out L200.out).mono ?_)
        rintro e W1 ⟨v, rfl, h1, h2⟩
        rw [gens_ref T2.out.nodup T2.out.oks] at h1
        exact ⟨v, rfl, nsb_lower h1 (Nat.le_trans B2.out.size hb.size), h2⟩
      · refine ⟨rfl, IsR.mono _, fun a W hA hb hd => takes_plain rfl (yields_value _ ?_ rfl)⟩
        have h6 : a.tmps[6]?.getD undef = .pointer (some ⟨ob, 0, none⟩) := (eval_get a 6).trans ((hA.eval (by simp)).trans rfl)
        go_simp
      · refine ⟨rfl, IsR.mono _, fun a W hA hb hd => takes_plain rfl (yields_value _ ?_ rfl)⟩
        have h51 : a.tmps[51]?.getD undef = .pointer (some ⟨ob, 1, none⟩) := (eval_get a 51).trans (hd 4 (by simp) _ rfl)
        have hc : W.cell? ⟨ob, 1, none⟩ = some (.int .u32 (q.t : Int)) := (CO.out.ab hb).cell (k := 1) rfl
        go_simp
      · refine ⟨rfl, NsR.mono _ _, fun a W hA hb hd => takes_plain rfl ?_⟩
        have h52 : a.tmps[52]?.getD undef = .int .u32 (q.t : Int) := (eval_get a 52).trans (hd 5 (by simp) _ rfl)
        have h4 : a.tmps[4]?.getD undef = .pointer (some ⟨g2, 0, none⟩) := (eval_get a 4).trans ((hA.eval (by simp)).trans rfl)
        refine yields_call 54 #[.pointer (some ⟨g2, 0, none⟩), .int .u32 (q.t : Int)] (by go_simp) ((rgens_any w.heap.size g2 q.t _ _ l W (T2.out.ab hb).2.choose_spec.choose_spec QT.out L200.out T2.out.nodup).mono ?_)
        rintro e W1 ⟨v, rfl, h1, h2⟩
        exact ⟨v, rfl, nsb_lower h1 (Nat.le_trans B2.out.size hb.size), h2⟩
      intro vs w5 hR hF hb
      have e47 : vs 47 = .pointer (some ⟨g, 0, none⟩) := hR 0 _ rfl
      have e48 : vs 48 = .pointer (some ⟨ob, 1, none⟩) := hR 1 _ rfl
      have e49 : vs 49 = .int .u32 (q.t : Int) := hR 2 _ rfl
      have e51 : vs 51 = .pointer (some ⟨ob, 1, none⟩) := hR 4 _ rfl
      have e52 : vs 52 = .int .u32 (q.t : Int) := hR 5 _ rfl
      simp only [List.map_cons, List.map_nil, List.foldl_cons, List.foldl_nil, List.length_cons, List.length_nil, List.drop_succ_cons, List.drop_zero, Act.put, List.setIfInBounds_toArray, List.set_cons_zero, List.set_cons_succ, e47, e48, e49, e51, e52]
      have N50 : Hid (U16.NsB w5 w.heap.size (vs 50) (gensTo q.t l 65536)) := Lib.hid (hR 3 _ rfl)
      have N53 : Hid (U16.NsB w5 w.heap.size (vs 53) (gensTo q.t l 65536)) := Lib.hid (hR 6 _ rfl)
      have B5 := Lib.hid (below_tr B2.out hb B2.out.size)
      have T5 := Lib.hid (T2.out.ab hb)
      have hlen : ((gensTo q.t l 65536).length : Int) ≤ 1000 := by have := gensTo_len (t := q.t) (n := 65536) T2.out.nodup; have := L200.out; omega
      clear hR hF hb e47 e48 e49 e51 e52 o0 o1 o2 o3
      generalize vs 50 = q50 at *
      generalize vs 53 = q53 at *
      generalize gensTo q.t l 65536 = L at *
      obtain ⟨A1, c1, rfl, hf1⟩ := N50.out.form
      obtain ⟨A2, c2, rfl, hf2⟩ := N53.out.form
      clear hf1 hf2
      generalize wr = wo at *
      go_wp2_with fail
      go_loopw [61] (fun z wx => ∃ j : Nat, j ≤ L.length ∧ z = .int .i64 (j : Int) ∧ U16.NsB wx w.heap.size (.slice A1 L.length c1) L ∧ U16.NsB wx w.heap.size (.slice A2 L.length c2) L ∧ Duo w.heap.size g m g2 l wx ∧ Below w.heap.size w wx) (fun z _ => L.length - (intOf z).toNat)
      case atStart => exact ⟨0, Nat.zero_le _, rfl, N50.out, N53.out, T5.out, B5.out⟩
      case round =>
        obtain ⟨j, hj, rfl, hn1, hn2, ht, hbx⟩ := hrel
        have N1 := Lib.hid hn1
        have N2 := Lib.hid hn2
        have TX := Lib.hid ht
        have BX := Lib.hid hbx
        by_cases hjl : j < L.length
        · have hjlt : (j : Int) < (L.length : Int) := by omega
          have HJ := Lib.hid hjl
          obtain ⟨A1', c1', he1, hf1⟩ := hn1.form
          obtain ⟨A2', c2', he2, hf2⟩ := hn2.form
          injection he1 with he1 hx1 hk1
          injection he2 with he2 hx2 hk2
          subst he1 he2 hk1 hk2
          clear hx1 hx2
          obtain ⟨g1, rfl, hc1⟩ := hf1 j hjl
          obtain ⟨g3, rfl, hc2⟩ := hf2 j hjl
          generalize L[j] = y at hc1 hc2
          clear hn1 hn2 ht hbx hj hf1 hf2 hjl
          go_wp2_with fail
          go_region
          all_goals go_wp2_with fail
          have dr : Below wr.heap.size wr wr.drew := (Below.refl _ _).drew
          go_roundw
          case rel => exact ⟨j + 1, HJ.out, by go_num, N1.out.ab dr, N2.out.ab dr, TX.out.ab dr, BX.out.drew⟩
          case measure => simp [intOf]; have := HJ.out; omega
        · obtain rfl : j = L.length := by omega
          clear hn1 hn2 ht hbx hj hjl
          go_wp2_with fail
          go_roundw
          case rel => exact ⟨i + 1, l, HL.out, by go_num, by have := LL.out; omega, TX.out, BX.out⟩
          case measure => simp [intOf]; have := HL.out; omega
    · obtain rfl : i = n := by omega
      have HB := Lib.hid hb
      clear hlt hi hb hd hll
      go_wp2_with fail
      refine (known10_any _).mono ?_
      rintro e w6 ⟨rfl, hb⟩
      have B6 := Lib.hid (below_tr HB.out hb HB.out.size)
      clear hb
      go_wp2_with fail
      go_ret
      exact ⟨rfl, B6.out⟩
set_option maxRecDepth 100000 in
theorem srings_walk (v : Value) (w : World) (hk : ∃ base, Value.okWide Try.prog w .any base 107 v) {H : Type} {enc : TypeId × Value → H} {d : DataW H} {p : List MemPlace} (hd : DataW.Trod enc Try.prog w 0 (fun _ => true) true 107 v d p) (hp : ∀ x ∈ p, x.block < w.heap.size) :
    Calls Try.prog 11 #[v] w fun e w' => e = .returned (.bool true) ∧ Below w.heap.size w w' := by
  obtain ⟨base, hk⟩ := hk
  obtain ⟨A, n, c, qs, rfl, hqs⟩ := open_opers hk hd hp
  exact srings_any A n c qs w hqs
end Go.Proofs.Ytmeakfocppooiaa
