/-
  SEALS THROUGH A LOG: the law's walk.
-/
import Derived.Test.YtmeakfocppooiaaSlA
import Derived.Test.YtmeakfocppooiaaTwC
import Derived.Test.YtmeakfocppooiaaSeJ
import Derived.BigQuiet
namespace Go.Proofs.Ytmeakfocppooiaa
open Go.RowKit Go.ChangeShapes Go.WideShapes
set_option linter.unusedVariables false

theorem row_row_ne {w : World} {B B' n s n' s' : Nat} {e e' : TypeId} {v u : Value} {xs ys : List Value} (h : w.ownsRow B e s v n xs) (h2 : w.ownsRow B' e' s' u n' ys) (hT : e ≠ e') : ∀ g, u.ownBlock = some g → v.ownBlock ≠ some g := fun g hg hv => by
  rcases h.2 with ⟨rfl, _⟩ | ⟨g1, cap, cur, rfl, _, hh, _⟩
  · cases hv
  · rcases h2.2 with ⟨rfl, _⟩ | ⟨g2, cap2, cur2, rfl, _, hh2, _⟩
    · cases hg
    · have e1 : g1 = g := by injection hv
      have e2 : g2 = g := by injection hg
      subst e1
      subst e2
      rw [hh] at hh2
      injection hh2 with hh2
      injection hh2 with q1 q2
      exact hT q2
theorem RlB.fr {w w' : World} {B : Nat} {v : Value} {all : List Rs} {F : Nat → Prop} (h : RlB w B v all) (hf : Fr w w' F) (h1 : ∀ k, v.ownBlock = some k → ¬ F k) (h2 : ∀ z l, OwB w B z l → ∀ k, z.ownBlock = some k → ¬ F k) : RlB w' B v all :=
  ⟨row_fr h.own hf h1, fun p hp => ⟨(h.vals p hp).1.fr hf (h2 _ _ (h.vals p hp).1), (h.vals p hp).2.1.fr hf (h2 _ _ (h.vals p hp).2.1), (h.vals p hp).2.2.fr hf (h2 _ _ (h.vals p hp).2.2)⟩⟩
theorem RlB.log {w w' : World} {B B' g n s : Nat} {v u : Value} {all : List Rs} {xs : List Value} (h : RlB w B v all) (hc : CbB w g 127 #[u]) (hr : w.ownsRow B' 130 s u n xs) (hf : Fr w w' (fun k => k = g ∨ u.ownBlock = some k)) : RlB w' B v all :=
  h.fr hf (fun k hk e => by
    rcases e with rfl | e
    · exact row_ne h.own hc (by decide) hk
    · exact row_row_ne h.own hr (by decide) k e hk) (fun z l hz k hk e => by
    rcases e with rfl | e
    · exact own_ne' (by decide) hc hz hk
    · exact row_own_ne hr hz (by decide) k hk e)
theorem LgB.ab0 {w w' : World} {B g : Nat} {all : List Sl} (h : LgB w B g all) (hf : Fr w w' (fun _ => False)) : LgB w' B g all := by
  obtain ⟨v, h1, h2⟩ := h.box
  exact ⟨Nat.le_trans h.low hf.size, v, h1.fr hf (fun h => h), row_fr h2 hf (fun _ _ h => h)⟩
theorem wrap_ten (n : Nat) (h : n < 4294967296) : IntKind.u32.wrap ((n : Int) + 1) = (((n + 1) % 4294967296 : Nat) : Int) := by
  by_cases h2 : n + 1 = 4294967296
  · obtain rfl : n = 4294967295 := by omega
    rfl
  · rw [Nat.mod_eq_of_lt (by omega)]
    exact wrap_u32 _ (by omega) (by omega)
theorem copy_own (A : Option Addr) (n c : Nat) (l : List Nat) (w : World) (h : IsB w A n c l) (hn : n ≤ 100000) :
    Calls Try.prog 19 #[.slice A n c] w fun e w' => ∃ v, e = .returned v ∧ OwB w' w.heap.size v l ∧ Below w.heap.size w w' := by
  have lk := h.len
  refine (copy_any A n c l w h (by omega)).mono ?_
  rintro e w' ⟨rfl, hk1, hb1⟩
  exact ⟨_, rfl, OwB.ofBk hk1 (Nat.le_refl _) lk (by omega) (by rw [List.length_append, lk, zeros_len]) (by omega) (by rw [List.take_append_of_le_length (by rw [lk]; exact Nat.le_refl _), List.take_of_length_le (by rw [lk]; exact Nat.le_refl _)]) h.2, hb1⟩
/-- what the log holds behind one more -/
def pushS (all : List Sl) (s : Sl) (err : Nat) : List Sl := if err = 0 then all ++ [s] else all
theorem logSeal_any (B g : Nat) (u : Value) (all : List Sl) (kA tA : Option Addr) (kn kc tn tc : Nat) (l : Lb) (key text R : List Nat) (err : Nat) (w : World) (hs : sealP key l text = (R, err)) (hg : CbB w g 127 #[u]) (hrow : w.ownsRow B 130 9 u all.length (slvs all)) (hB : B ≤ w.heap.size) (h1000 : all.length ≤ 1000)
    (hl : l.Ok) (ik : IsB w kA kn kc key) (it : IsB w tA tn tc text) (hkA : 0 < kn → ∀ x, kA = some x → u.ownBlock ≠ some x.block) (htA : ∀ x, tA = some x → u.ownBlock ≠ some x.block) :
    Calls Try.prog 16 #[.pointer (some ⟨g, 0, none⟩), .slice kA kn kc, .agg (lab l), .slice tA tn tc] w fun e w' => ∃ v, e = .returned (.tuple #[v, .int .i64 (err : Int)]) ∧ OwB w' w.heap.size v R ∧ LgB w' B g (pushS all ⟨l, key, text, R⟩ err) ∧ Fr w w' (fun k => k = g ∨ u.ownBlock = some k) := by
  by_cases h0 : err = 0
  · subst h0
    have hk : 0 < kn := by
      have lk := ik.len
      unfold sealP at hs
      split at hs
      · rename_i hc
        have := hc.1.1
        unfold KeyOk at this
        omega
      · have h := congrArg Prod.snd hs
        simp at h
    refine (logSeal_push B g u all kA tA kn kc tn tc l key text R w hg hrow hB h1000 hl ik it (hkA hk) htA hs).mono ?_
    rintro e w' ⟨v, rfl, h1, h2, h3⟩
    exact ⟨v, rfl, h1, h2, h3⟩
  · have h2 : (sealP key l text).2 ≠ 0 := by rw [hs]; exact h0
    have h3 : (sealP key l text).2 ≤ 255 := by
      unfold sealP
      split
      · exact Nat.zero_le _
      · exact (by decide)
    have := logSeal_no g kA tA kn kc tn tc l key text w hl ik it h2 h3
    rw [hs] at this
    refine this.mono ?_
    rintro e w' ⟨v, rfl, h1, h4⟩
    refine ⟨v, rfl, h1, ?_, Fr.of h4 _⟩
    unfold pushS
    rw [if_neg h0]
    exact LgB.ab ⟨hB, u, hg, hrow⟩ h4
def SlDone (s : Sl) : Prop := SlOk s ∧ sealP s.key s.l s.pay = (s.blk, 0)
theorem SlDone.blk {s : Sl} (h : SlDone s) : ∃ r, s.blk = 67 :: r := by
  have h2 := h.2
  unfold sealP at h2
  split at h2
  · injection h2 with h2 _
    exact ⟨_, h2.symm⟩
  · have h := congrArg Prod.snd h2
    simp at h
theorem any_no {all : List Sl} (h : ∀ s ∈ all, SlDone s) {b : List Nat} (hb : ∀ r, b ≠ 67 :: r) : all.any (fun s => decide (s.blk = b)) = false := by
  rw [List.any_eq_false]
  intro s hs e
  obtain ⟨r, hr⟩ := (h s hs).blk
  rw [decide_eq_true_eq] at e
  exact hb r (e.symm.trans hr)
theorem any_no2 {all : List Sl} (h : ∀ s ∈ all, SlDone s) {b : List Nat} (hb : ∀ r, b ≠ 67 :: r) (m : Lb) : all.any (fun s => (decide (s.l = m) && decide (s.blk = b))) = false := by
  rw [List.any_eq_false]
  intro s hs e
  obtain ⟨r, hr⟩ := (h s hs).blk
  rw [Bool.and_eq_true, decide_eq_true_eq, decide_eq_true_eq] at e
  exact hb r (e.2.symm.trans hr)
theorem infoRs : (Try.prog.info? 44).map (fun i => (i.zero, i.size, i.bytes)) = some (some (.agg #[.slice none 0 0, .int .u32 0, .int .u8 0, .int .u8 0, .int .u32 0, .int .u64 0, .int .u16 0, .slice none 0 0, .slice none 0 0]), 9, 104) := by kernel_rfl
theorem set_fill (f : Nat) : ∀ (j n : Nat), j < n → (List.replicate j f ++ List.replicate (n - j) 0).set j f = List.replicate (j + 1) f ++ List.replicate (n - (j + 1)) 0 := fun j n h => by
  rw [List.set_append_right _ _ (by simp)]
  simp only [List.length_replicate, Nat.sub_self]
  obtain ⟨m, hm⟩ : ∃ m, n - j = m + 1 := ⟨n - j - 1, by omega⟩
  rw [hm, show n - (j + 1) = m by omega, List.replicate_succ, List.set_cons_zero, List.replicate_succ', List.append_assoc]
  rfl
theorem labs_at : ∀ (ls : List Lb) (i : Nat) (l : Lb), ls[i]? = some l → ∀ (j : Nat) (v : Value), (lab l)[j]? = some v → (labs ls)[i * 6 + j]? = some v
  | [], i, s, h => by simp at h
  | t :: r, 0, s, h => fun j v hv => by
    simp only [List.getElem?_cons_zero, Option.some.injEq] at h
    subst h
    have hj : j < 6 := (Array.getElem?_eq_some_iff.1 hv).1
    rw [labs, List.getElem?_append_left (by simp [lab]; omega)]
    simpa using hv
  | t :: r, i + 1, s, h => fun j v hv => by
    have := labs_at r i s (by simpa using h) j v hv
    rw [labs, List.getElem?_append_right (by simp [lab]; omega)]
    rw [show (i + 1) * 6 + j - (lab t).toList.length = i * 6 + j by simp [lab]; omega]
    exact this
theorem LsB.at {w : World} {B : Nat} {v : Value} {ls : List Lb} (h : LsB w B v ls) {i : Nat} {l : Lb} (hl : ls[i]? = some l) : ∃ gb cap, v = .slice (some ⟨gb, 0, none⟩) ls.length cap ∧ gb < w.heap.size ∧ ∀ (j : Nat) (u : Value), (lab l)[j]? = some u → w.cell? ⟨gb, i * 6 + j, none⟩ = some u := by
  have hi' := (List.getElem?_eq_some_iff.1 hl).1
  rcases h.2 with ⟨_, h0⟩ | ⟨gb, cap, cur, rfl, hg, hh, _⟩
  · omega
  · refine ⟨gb, cap, rfl, (Array.getElem?_eq_some_iff.1 hh).1, fun j u hu => ?_⟩
    have := World.ownsRow.cells h (g := gb) rfl (i * 6 + j) u (labs_at ls i l hl j u hu)
    rwa [Addr.add_mid, Nat.zero_add] at this
/-- what is sealed for an act -/
def payA (q : AArg) : List Nat := bif q.s then List.replicate 223 q.f else List.replicate 224 q.f
theorem byt_rep {f : Nat} (h : f < 256) (n : Nat) : Byt (List.replicate n f) := fun x hx => by rw [(List.mem_replicate.1 hx).2]; exact h
set_option maxRecDepth 100000 in
set_option maxHeartbeats 16000000 in
theorem slogs_any (A : Option Addr) (n c : Nat) (qs : List AArg) (w : World) (hk : AcB w A n c qs) :
    Calls Try.prog 3 #[.slice A n c] w fun e w' => e = .returned (.bool true) ∧ Below w.heap.size w w' := by
  have hn : (n : Int) ≤ 9223372036854775807 := by have := hk.cap; have := hk.max; unfold maxLen at this; omega
  have K0 := Lib.hid hk
  clear hk
  go_enter Try.func3, Try.ntmps3
  by_cases h60 : 60 < n
  · have h60' : (60 : Int) < (n : Int) := by omega
    clear h60
    go_wp2_with fail
    refine (known10_any _).mono ?_
    rintro e w6 ⟨rfl, hb⟩
    have B6 := Lib.hid hb
    clear hb
    go_wp2_with fail
    go_ret
    exact ⟨rfl, B6.out⟩
  have h60' : ¬ (60 : Int) < (n : Int) := by omega
  have N60 := Lib.hid h60
  clear h60
  go_wp2_with fail
  refine (newLog_any _).mono ?_
  rintro e w1 ⟨g, rfl, hlg, hc, hb⟩
  have G1 := Lib.hid (LgB.empty hc hb.size)
  have B1 := Lib.hid hb
  have HG := Lib.hid hlg
  clear hc hb hlg
  go_wp2_with fail
  go_loopw [25, 4] (fun z v wr => ∃ (i : Nat) (S : List Rs), i ≤ n ∧ z = .int .i64 (i : Int) ∧ S.length ≤ i ∧ RlB wr w.heap.size v S ∧ LgB wr w.heap.size g (S.map (·.s)) ∧ (∀ s ∈ S.map (·.s), SlDone s) ∧ Below w.heap.size w wr) (fun z _ _ => n - (intOf z).toNat)
  case atStart => exact ⟨0, [], Nat.zero_le _, rfl, Nat.le_refl _, ⟨World.ownsRow_nil _ _ _ _, fun p hp => (by cases hp)⟩, G1.out, fun s hs => (by cases hs), B1.out⟩
  case round =>
    obtain ⟨i, S, hi, rfl, hsl, hrl, hlg, hdn, hb⟩ := hrel
    by_cases hlt : i < n
    · obtain ⟨q, hq⟩ : ∃ q, qs[i]? = some q := ⟨_, List.getElem?_eq_getElem (by rw [K0.out.len]; exact hlt)⟩
      obtain ⟨x, rfl, hxl, hcell, hlok, hf, ik⟩ := K0.out.cel i q hq
      have hlti : (i : Int) < (n : Int) := by omega
      have HLT := Lib.hid hlt
      have RL := Lib.hid hrl
      have LG := Lib.hid hlg
      have DN := Lib.hid hdn
      have HB := Lib.hid hb
      have SL : Hid (S.length ≤ 60) := Lib.hid (by have := N60.out; omega)
      have SI := Lib.hid hsl
      have LOK := Lib.hid hlok
      have FL := Lib.hid hf
      have IK := Lib.hid ik
      have KC : Hid (∀ W, Below w.heap.size w W → W.cell? (x.add (i * 9)) = some (.slice q.a q.n q.c) ∧ ∀ (j : Nat) (u : Value), (acv q)[j + 1]? = some u → W.cell? ⟨(x.add (i * 9)).block, (x.add (i * 9)).off + (j + 1), none⟩ = some u) := Lib.hid fun W hW => by
        have hk : ∀ (j : Nat) (u : Value), (acv q)[j]? = some u → W.cell? (x.add (i * 9 + j)) = some u := fun j u hu => by
          rw [← hcell j u hu]
          refine World.cell?_of_block ?_
          rw [add_block]
          exact hW.block _ hxl
        refine ⟨hk 0 _ rfl, fun j u hu => ?_⟩
        have h2 := hk (j + 1) u hu
        rw [← Go.Deep.add_add] at h2
        exact h2
      clear hlt hrl hlg hdn hb hsl hlok hf ik hcell hxl hi hq
      have ac0 : wr.cell? (x.add (i * 9)) = some (.slice q.a q.n q.c) := (KC.out wr HB.out).1
      have LO := Lib.hid (long1_any q.a q.n q.c wr.heap.size _ (CbB.new wr 28 #[.slice q.a q.n q.c]))
      go_wp2_with fail
      refine LO.out.mono ?_
      rintro e w2 ⟨rfl, rfl⟩
      have D2 : Hid (Below wr.heap.size wr (wr.alloc (.cells #[.slice q.a q.n q.c] 28))) := Lib.hid ((Below.refl _ _).alloc (Nat.le_refl _) _)
      obtain ⟨w2, hw2⟩ : ∃ w2, wr.alloc (.cells #[.slice q.a q.n q.c] 28) = w2 := ⟨_, rfl⟩
      rw [hw2] at D2 ⊢
      clear hw2 ac0 LO
      cases hlong : decide (4096 < q.n)
      case true =>
        have B2 := Lib.hid (below_tr HB.out D2.out HB.out.size)
        clear hlong
        go_wp2_with fail
        refine (known10_any _).mono ?_
        rintro e w6 ⟨rfl, hb⟩
        have B6 := Lib.hid (below_tr B2.out hb B2.out.size)
        clear hb
        go_wp2_with fail
        go_ret
        exact ⟨rfl, B6.out⟩
      have QN : Hid (q.n ≤ 4096) := Lib.hid (by have := of_decide_eq_false hlong; omega)
      clear hlong
      go_wp2_with (refine wpList_makeB rfl 224 (by decide) rfl ?_; intro w3 hk3 hb3; have P3 := Lib.hid hk3; have D3 := Lib.hid (below_tr D2.out hb3 D2.out.size); clear hk3 hb3)
      have PS : Hid (wr.heap.size ≤ w2.heap.size) := Lib.hid D2.out.size
      generalize w2.heap.size = gp at *
      generalize wr = wo at *
      go_loopw [39] (fun z wx => ∃ j : Nat, j ≤ 224 ∧ z = .int .i64 (j : Int) ∧ Bk wx gp 5 (List.replicate j q.f ++ List.replicate (224 - j) 0) ∧ Below wo.heap.size wo wx) (fun z _ => 224 - (intOf z).toNat)
      case atStart => exact ⟨0, Nat.zero_le _, rfl, P3.out, D3.out⟩
      case round =>
        obtain ⟨j, hj, rfl, hbk, hbx⟩ := hrel
        by_cases hjl : j < 224
        · have hjlt : (j : Int) < 224 := by omega
          have ac7 : wr.cell? ⟨(x.add (i * 9)).block, (x.add (i * 9)).off + 7, none⟩ = some (.int .u8 (q.f : Int)) := (KC.out wr (below_tr HB.out hbx HB.out.size)).2 6 _ rfl
          have hc0 := hbk.cell (k := j) (by simp; omega)
          have hf0 := hbk.free j
          have HK := Lib.hid (hbk.set j q.f)
          have HX := Lib.hid hbx
          have HJ := Lib.hid hjl
          clear hbk hbx hjl hj
          go_wp2_with fail
          go_roundw
          case rel => exact ⟨j + 1, HJ.out, by go_num, by rw [← set_fill q.f j 224 HJ.out]; exact HK.out, HX.out.setCell (show wo.heap.size ≤ (⟨gp, j, none⟩ : Addr).block from PS.out) _⟩
          case measure => simp [intOf]; have := HJ.out; omega
        · obtain rfl : j = 224 := by omega
          rw [Nat.sub_self, List.replicate_zero, List.append_nil] at hbk
          have P4 := Lib.hid hbk
          have D4 := Lib.hid hbx
          clear hbk hbx hjl hj P3 D3 D2
          have ac8 : wr.cell? ⟨(x.add (i * 9)).block, (x.add (i * 9)).off + 8, none⟩ = some (.bool q.s) := (KC.out wr (below_tr HB.out D4.out HB.out.size)).2 7 _ rfl
          go_upto_if 55 with (fail)
          go_cut [6] from 51 to 162 (fun z wc => ∃ pA pc, z = .slice pA (payA q).length pc ∧ IsB wc pA (payA q).length pc (payA q) ∧ (∀ y, pA = some y → wo.heap.size ≤ y.block) ∧ Below wo.heap.size wo wc)
          case first =>
            have IW := isB_whole P4.out (byt_rep FL.out 224) (List.length_replicate ..) (by decide)
            have D5 := Lib.hid D4.out
            cases hs : q.s
            · have hp : payA q = List.replicate 224 q.f := by unfold payA; rw [hs]; rfl
              have I5 := Lib.hid IW
              clear IW
              go_wp2_with fail
              go_meet
              case rel => exact ⟨some ⟨gp, 0, none⟩, 224, by rw [hp, List.length_replicate], by rw [hp, List.length_replicate]; exact I5.out, fun y hy => by injection hy with hy; subst hy; exact PS.out, D5.out⟩
            · have hp : payA q = List.replicate 223 q.f := by unfold payA; rw [hs]; rfl
              have I5 := Lib.hid (isB_drop IW (m := 1) (by decide))
              clear IW
              go_wp2_with fail
              go_meet
              case rel => exact ⟨some ⟨gp, 1, none⟩, 223, by rw [hp, List.length_replicate], by rw [hp, List.length_replicate]; exact I5.out, fun y hy => by injection hy with hy; subst hy; exact PS.out, D5.out⟩
          case rest =>
            obtain ⟨pA, pc, rfl, ip, hpa, hd⟩ := hcut

            generalize hT : payA q = T at ip ⊢
            have HT := Lib.hid hT
            have IP := Lib.hid ip
            have B5 := Lib.hid (below_tr HB.out hd HB.out.size)
            have SW : Hid (w.heap.size ≤ wc.heap.size) := Lib.hid (Nat.le_trans HB.out.size hd.size)
            obtain ⟨u, hgu, hur⟩ := LG.out.box
            have GU := Lib.hid (hgu.ab hd)
            have UR : Hid (wc.ownsRow w.heap.size 130 9 u (S.map (·.s)).length (slvs (S.map (·.s)))) := Lib.hid (row_fr hur (Fr.of hd (fun _ => False)) (fun _ _ h => h))
            have UL : ∀ k, u.ownBlock = some k → w.heap.size ≤ k ∧ k < wo.heap.size := fun k hk => by
              refine ⟨own_ge9 hur k hk, ?_⟩
              rcases hur.2 with ⟨rfl, _⟩ | ⟨g', cap, cur, rfl, _, hh, _⟩
              · cases hk
              · have : g' = k := by injection hk
                subst this
                exact (Array.getElem?_eq_some_iff.1 hh).1
            have FG : Hid (∀ k, (k = g ∨ u.ownBlock = some k) → w.heap.size ≤ k) := Lib.hid fun k hk => by
              rcases hk with rfl | hk
              · exact HG.out
              · exact (UL k hk).1
            have FB : Hid (∀ k, (k = g ∨ u.ownBlock = some k) → k < wc.heap.size) := Lib.hid fun k hk => by
              rcases hk with rfl | hk
              · exact Nat.lt_of_lt_of_le hgu.lt hd.size
              · exact Nat.lt_of_lt_of_le (UL k hk).2 hd.size
            have IK5 := Lib.hid (IK.out.ab B5.out)
            have RL5 := Lib.hid (RL.out.ab hd)
            have PV0 : Hid (∀ y, pA = some y → ¬ (u4.ownBlock = some y.block)) := Lib.hid fun y hy hv => by
              have h1 := hpa y hy
              rcases RL.out.own.2 with ⟨rfl, _⟩ | ⟨g', cap, cur, rfl, _, hh, _⟩
              · cases hv
              · have : g' = y.block := by injection hv
                subst this
                have := (Array.getElem?_eq_some_iff.1 hh).1
                omega
            obtain ⟨R, err, hse⟩ : ∃ R err, sealP q.k q.l T = (R, err) := ⟨_, _, rfl⟩
            have HE : Hid (sealP q.k q.l T = (R, err)) := Lib.hid hse
            have HS := Lib.hid fun W h1 h2 h3 h4 h5 => logSeal_any w.heap.size g u (S.map (·.s)) q.a pA q.n q.c T.length pc q.l q.k T R err W hse h1 h2 h3 (by rw [List.length_map]; have := SL.out; omega) LOK.out h4 h5 (fun h0 y hy hu => by
              obtain ⟨z, hz, hzl, _⟩ := IK.out.cell h0
              rw [hy] at hz
              injection hz with hz
              subst hz
              have := (UL _ hu).1
              omega) (fun y hy hu => by
              have h1 := hpa y hy
              have h2 := (UL _ hu).2
              omega)
            have HR := Lib.hid fun W h1 h2 => rlseal_any q.a pA q.n q.c T.length pc q.l q.k T W LOK.out h1 h2
            rw [hse] at HR
            simp only at HR
            rw [lab_cells] at HS HR
            have PA2 : Hid (∀ y, pA = some y → ¬ (y.block = g ∨ u.ownBlock = some y.block)) := Lib.hid fun y hy hk => by
              have h1 := hpa y hy
              rcases hk with hk | hk
              · have := hgu.lt; omega
              · have := (UL _ hk).2; omega
            clear ip hd hpa P4 D4 PS hgu hur UL hse LG RL HB
            go_wp2_with fail
            refine wp_wide5 (fun i k => i = 12 ∧ (k = g ∨ u.ownBlock = some k)) [⟨59, IsR (.pointer (some ⟨g, 0, none⟩)), [], false⟩, ⟨60, IsR (.slice (some x) n c), [], false⟩, ⟨61, IsR (.int .i64 (i : Int)), [], false⟩, ⟨62, IsR (.pointer (some (x.add (i * 9)))), [1, 2], false⟩, ⟨63, IsR (.pointer (some (x.add (i * 9)))), [3], false⟩, ⟨64, IsR (.slice q.a q.n q.c), [4], false⟩, ⟨65, IsR (.slice (some x) n c), [], false⟩, ⟨66, IsR (.int .i64 (i : Int)), [], false⟩, ⟨67, IsR (.pointer (some (x.add (i * 9)))), [6, 7], false⟩, ⟨68, IsR (.pointer (some ((x.add (i * 9)).add 1))), [8], false⟩, ⟨69, IsR (.agg #[.int .u32 (q.l.ten : Int), .int .u8 (q.l.k : Int), .int .u8 (q.l.lv : Int), .int .u32 (q.l.pg : Int), .int .u64 (q.l.cm : Int), .int .u16 (q.l.gn : Int)]), [9], false⟩, ⟨70, IsR (.slice pA T.length pc), [], false⟩, ⟨71, (fun z W => ∃ v, z = .tuple #[v, .int .i64 (err : Int)] ∧ OwB W wc.heap.size v R ∧ LgB W w.heap.size g (pushS (S.map (·.s)) ⟨q.l, q.k, T, R⟩ err)), [0, 5, 10, 11], false⟩, ⟨58, (fun z W => ∃ v, z = .tuple #[v, .int .i64 (err : Int)] ∧ OwB W wc.heap.size v R), [12], false⟩, ⟨72, (fun z W => OwB W wc.heap.size z R), [13], false⟩, ⟨73, IsR (.int .i64 (err : Int)), [13], false⟩, ⟨8, (fun z W => OwB W wc.heap.size z R), [14], false⟩] (by kernel_rfl) (by kernel_rfl) rfl rfl rfl ⟨?_, ?_, ?_, ?_, ?_, ?_, ?_, ?_, ?_, ?_, ?_, ?_, ?_, ?_, ?_, ?_, ?_, trivial⟩ ?_
            · refine ⟨rfl, IsR.monoF _ _, fun a W hA hb hd => Takes.to5 (takes_plain rfl (yields_value _ ?_ rfl)) _⟩
              have h3 : a.tmps[3]?.getD undef = .pointer (some ⟨g, 0, none⟩) := (eval_get a 3).trans ((hA.eval (by simp)).trans rfl)
              go_simp
            · refine ⟨rfl, IsR.monoF _ _, fun a W hA hb hd => Takes.to5 (takes_plain rfl (yields_value _ ?_ rfl)) _⟩
              have h0 : a.tmps[0]?.getD undef = .slice (some x) n c := (eval_get a 0).trans ((hA.eval (by simp)).trans rfl)
              go_simp
            · refine ⟨rfl, IsR.monoF _ _, fun a W hA hb hd => Takes.to5 (takes_plain rfl (yields_value _ ?_ rfl)) _⟩
              have h5 : a.tmps[5]?.getD undef = .int .i64 (i : Int) := (eval_get a 5).trans ((hA.eval (by simp)).trans rfl)
              go_simp
            · refine ⟨rfl, IsR.monoF _ _, fun a W hA hb hd => Takes.to5 (takes_plain rfl (yields_value _ ?_ rfl)) _⟩
              have h60 : a.tmps[60]?.getD undef = .slice (some x) n c := (eval_get a 60).trans (hd 1 (by simp) _ rfl)
              have h61 : a.tmps[61]?.getD undef = .int .i64 (i : Int) := (eval_get a 61).trans (hd 2 (by simp) _ rfl)
              go_simp
            · refine ⟨rfl, IsR.monoF _ _, fun a W hA hb hd => Takes.to5 (takes_plain rfl (yields_value _ ?_ rfl)) _⟩
              have h62 : a.tmps[62]?.getD undef = .pointer (some (x.add (i * 9))) := (eval_get a 62).trans (hd 3 (by simp) _ rfl)
              go_simp
            · refine ⟨rfl, IsR.monoF _ _, fun a W hA hb hd => Takes.to5 (takes_plain rfl (yields_value _ ?_ rfl)) _⟩
              have h63 : a.tmps[63]?.getD undef = .pointer (some (x.add (i * 9))) := (eval_get a 63).trans (hd 4 (by simp) _ rfl)
              have hbw : Below w.heap.size w W := Fr.below (hb.imp fun k ⟨j, _, _, hj⟩ => hj) FG.out B5.out SW.out
              have ac0 : W.cell? (x.add (i * 9)) = some (.slice q.a q.n q.c) := (KC.out W hbw).1
              go_simp
            · refine ⟨rfl, IsR.monoF _ _, fun a W hA hb hd => Takes.to5 (takes_plain rfl (yields_value _ ?_ rfl)) _⟩
              have h0 : a.tmps[0]?.getD undef = .slice (some x) n c := (eval_get a 0).trans ((hA.eval (by simp)).trans rfl)
              go_simp
            · refine ⟨rfl, IsR.monoF _ _, fun a W hA hb hd => Takes.to5 (takes_plain rfl (yields_value _ ?_ rfl)) _⟩
              have h5 : a.tmps[5]?.getD undef = .int .i64 (i : Int) := (eval_get a 5).trans ((hA.eval (by simp)).trans rfl)
              go_simp
            · refine ⟨rfl, IsR.monoF _ _, fun a W hA hb hd => Takes.to5 (takes_plain rfl (yields_value _ ?_ rfl)) _⟩
              have h65 : a.tmps[65]?.getD undef = .slice (some x) n c := (eval_get a 65).trans (hd 6 (by simp) _ rfl)
              have h66 : a.tmps[66]?.getD undef = .int .i64 (i : Int) := (eval_get a 66).trans (hd 7 (by simp) _ rfl)
              go_simp
            · refine ⟨rfl, IsR.monoF _ _, fun a W hA hb hd => Takes.to5 (takes_plain rfl (yields_value _ ?_ rfl)) _⟩
              have h67 : a.tmps[67]?.getD undef = .pointer (some (x.add (i * 9))) := (eval_get a 67).trans (hd 8 (by simp) _ rfl)
              go_simp
            · refine ⟨rfl, IsR.monoF _ _, fun a W hA hb hd => Takes.to5 (takes_plain rfl (yields_value _ ?_ rfl)) _⟩
              have h68 : a.tmps[68]?.getD undef = .pointer (some ((x.add (i * 9)).add 1)) := (eval_get a 68).trans (hd 9 (by simp) _ rfl)
              have hbw : Below w.heap.size w W := Fr.below (hb.imp fun k ⟨j, _, _, hj⟩ => hj) FG.out B5.out SW.out
              have ac1 : W.cell? ⟨(x.add (i * 9)).block, (x.add (i * 9)).off + 1, none⟩ = some (.int .u32 (q.l.ten : Int)) := (KC.out W hbw).2 0 _ rfl
              have ac2 : W.cell? ⟨(x.add (i * 9)).block, (x.add (i * 9)).off + 2, none⟩ = some (.int .u8 (q.l.k : Int)) := (KC.out W hbw).2 1 _ rfl
              have ac3 : W.cell? ⟨(x.add (i * 9)).block, (x.add (i * 9)).off + 3, none⟩ = some (.int .u8 (q.l.lv : Int)) := (KC.out W hbw).2 2 _ rfl
              have ac4 : W.cell? ⟨(x.add (i * 9)).block, (x.add (i * 9)).off + 4, none⟩ = some (.int .u32 (q.l.pg : Int)) := (KC.out W hbw).2 3 _ rfl
              have ac5 : W.cell? ⟨(x.add (i * 9)).block, (x.add (i * 9)).off + 5, none⟩ = some (.int .u64 (q.l.cm : Int)) := (KC.out W hbw).2 4 _ rfl
              have ac6 : W.cell? ⟨(x.add (i * 9)).block, (x.add (i * 9)).off + 6, none⟩ = some (.int .u16 (q.l.gn : Int)) := (KC.out W hbw).2 5 _ rfl
              go_simp
            · refine ⟨rfl, IsR.monoF _ _, fun a W hA hb hd => Takes.to5 (takes_plain rfl (yields_value _ ?_ rfl)) _⟩
              have h6 : a.tmps[6]?.getD undef = .slice pA T.length pc := (eval_get a 6).trans ((hA.eval (by simp)).trans rfl)
              go_simp
            · refine ⟨rfl, fun z W W1 ⟨v, h1, h2, h3⟩ hf => ⟨v, h1, h2.fr (hf.imp fun k ⟨j, hj, hj2, _⟩ => (hj hj2 : False)) (fun _ _ h => h), h3.ab0 (hf.imp fun k ⟨j, hj, hj2, _⟩ => (hj hj2 : False))⟩, fun a W hA hb hd => takes5_plain rfl ?_⟩
              have h59 : a.tmps[59]?.getD undef = .pointer (some ⟨g, 0, none⟩) := (eval_get a 59).trans (hd 0 (by simp) _ rfl)
              have h64 : a.tmps[64]?.getD undef = .slice q.a q.n q.c := (eval_get a 64).trans (hd 5 (by simp) _ rfl)
              have h69 : a.tmps[69]?.getD undef = .agg #[.int .u32 (q.l.ten : Int), .int .u8 (q.l.k : Int), .int .u8 (q.l.lv : Int), .int .u32 (q.l.pg : Int), .int .u64 (q.l.cm : Int), .int .u16 (q.l.gn : Int)] := (eval_get a 69).trans (hd 10 (by simp) _ rfl)
              have h70 : a.tmps[70]?.getD undef = .slice pA T.length pc := (eval_get a 70).trans (hd 11 (by simp) _ rfl)
              have f0 : Fr wc W (fun _ => False) := hb.imp fun k ⟨j, hj, hj2, _⟩ => hj hj2
              refine .inr ⟨16, #[.pointer (some ⟨g, 0, none⟩), .slice q.a q.n q.c, .agg #[.int .u32 (q.l.ten : Int), .int .u8 (q.l.k : Int), .int .u8 (q.l.lv : Int), .int .u32 (q.l.pg : Int), .int .u64 (q.l.cm : Int), .int .u16 (q.l.gn : Int)], .slice pA T.length pc], (by go_simp), ((HS.out W (GU.out.fr f0 (fun h => h)) (row_fr UR.out f0 (fun _ _ h => h)) (Nat.le_trans SW.out hb.size) (IK5.out.fr f0 (fun _ _ h => h)) (IP.out.fr f0 (fun _ _ h => h))).mono ?_)⟩
              rintro e W1 ⟨v, rfl, h1, h2, h3⟩
              exact ⟨_, rfl, ⟨v, rfl, h1.lower hb.size, h2⟩, h3.imp fun k hk => ⟨rfl, hk⟩⟩
            · refine ⟨rfl, fun z W W1 ⟨v, h1, h2⟩ hf => ⟨v, h1, h2.fr hf (fun g2 hg2 ⟨j, _, _, hj⟩ => by have := FB.out _ hj; have := own_ge9 h2.own _ hg2; omega)⟩, fun a W hA hb hd => takes5_plain rfl ?_⟩
              obtain ⟨v, e0, ho, _⟩ := hd 12 (by simp) _ rfl
              have h71 : a.tmps[71]?.getD undef = .tuple #[v, .int .i64 (err : Int)] := (eval_get a 71).trans e0
              refine Yields.to5 (yields_value (.tuple #[v, .int .i64 (err : Int)]) ?_ ⟨v, rfl, ho⟩) _
              go_simp
            · refine ⟨rfl, fun z W W1 h2 hf => OwB.fr h2 hf (fun g2 hg2 ⟨j, _, _, hj⟩ => by have := FB.out _ hj; have := own_ge9 h2.own _ hg2; omega), fun a W hA hb hd => takes5_plain rfl ?_⟩
              obtain ⟨v, e0, ho⟩ := hd 13 (by simp) _ rfl
              have h58 : a.tmps[58]?.getD undef = .tuple #[v, .int .i64 (err : Int)] := (eval_get a 58).trans e0
              refine Yields.to5 (yields_value v ?_ ho) _
              go_simp
            · refine ⟨rfl, IsR.monoF _ _, fun a W hA hb hd => takes5_plain rfl ?_⟩
              obtain ⟨v, e0, ho⟩ := hd 13 (by simp) _ rfl
              have h58 : a.tmps[58]?.getD undef = .tuple #[v, .int .i64 (err : Int)] := (eval_get a 58).trans e0
              refine Yields.to5 (yields_value (.int .i64 (err : Int)) ?_ rfl) _
              go_simp
            · refine ⟨rfl, fun z W W1 h2 hf => OwB.fr h2 hf (fun g2 hg2 ⟨j, _, _, hj⟩ => by have := FB.out _ hj; have := own_ge9 h2.own _ hg2; omega), fun a W hA hb hd => takes5_plain rfl ?_⟩
              have ho : OwB W wc.heap.size (a.eval (.tmp 72)) R := hd 14 (by simp) _ rfl
              exact Yields.to5 (yields_value (a.eval (.tmp 72)) (exec_assign (.tmp 72) rfl W) ho) _
            intro vs w6 hR hb
            obtain ⟨v71, _, hv71, hlog⟩ : (∃ v, vs 71 = .tuple #[v, .int .i64 (err : Int)] ∧ OwB w6 wc.heap.size v R ∧ LgB w6 w.heap.size g (pushS (S.map (·.s)) ⟨q.l, q.k, T, R⟩ err)) := hR 12 _ rfl
            have V8 : Hid (OwB w6 wc.heap.size (vs 8) R) := Lib.hid (hR 16 _ rfl)
            have e59 : vs 59 = .pointer (some ⟨g, 0, none⟩) := hR 0 _ rfl
            have e60 : vs 60 = .slice (some x) n c := hR 1 _ rfl
            have e61 : vs 61 = .int .i64 (i : Int) := hR 2 _ rfl
            have e62 : vs 62 = .pointer (some (x.add (i * 9))) := hR 3 _ rfl
            have e63 : vs 63 = .pointer (some (x.add (i * 9))) := hR 4 _ rfl
            have e64 : vs 64 = .slice q.a q.n q.c := hR 5 _ rfl
            have e65 : vs 65 = .slice (some x) n c := hR 6 _ rfl
            have e66 : vs 66 = .int .i64 (i : Int) := hR 7 _ rfl
            have e67 : vs 67 = .pointer (some (x.add (i * 9))) := hR 8 _ rfl
            have e68 : vs 68 = .pointer (some ((x.add (i * 9)).add 1)) := hR 9 _ rfl
            have e69 : vs 69 = .agg #[.int .u32 (q.l.ten : Int), .int .u8 (q.l.k : Int), .int .u8 (q.l.lv : Int), .int .u32 (q.l.pg : Int), .int .u64 (q.l.cm : Int), .int .u16 (q.l.gn : Int)] := hR 10 _ rfl
            have e70 : vs 70 = .slice pA T.length pc := hR 11 _ rfl
            have e73 : vs 73 = .int .i64 (err : Int) := hR 15 _ rfl
            simp only [List.map_cons, List.map_nil, List.foldl_cons, List.foldl_nil, List.length_cons, List.length_nil, List.drop_succ_cons, List.drop_zero, Act.put, List.setIfInBounds_toArray, List.set_cons_zero, List.set_cons_succ, e59, e60, e61, e62, e63, e64, e65, e66, e67, e68, e69, e70, e73]
            have FR : Hid (Fr wc w6 (fun k => k = g ∨ u.ownBlock = some k)) := Lib.hid (hb.imp fun k ⟨j, _, hj⟩ => hj)
            have L6 := Lib.hid hlog
            have B6 := Lib.hid (Fr.below FR.out FG.out B5.out SW.out)
            have S6 : Hid (w.heap.size ≤ w6.heap.size) := Lib.hid B6.out.size
            have R6 := Lib.hid (RL5.out.log GU.out UR.out FR.out)
            have K6 := Lib.hid (IK.out.ab B6.out)
            have P6 := Lib.hid (IP.out.fr FR.out PA2.out)
            clear hR hb hlog hv71 e59 e60 e61 e62 e63 e64 e65 e66 e67 e68 e69 e70 e73
            generalize vs 58 = q58 at *
            generalize vs 71 = q71 at *
            generalize vs 72 = q72 at *
            generalize vs 8 = q8 at *
            go_wp2_with fail
            refine wp_wide3 [⟨75, IsR (.slice (some x) n c), [], false⟩, ⟨76, IsR (.int .i64 (i : Int)), [], false⟩, ⟨77, IsR (.pointer (some (x.add (i * 9)))), [0, 1], false⟩, ⟨78, IsR (.pointer (some (x.add (i * 9)))), [2], false⟩, ⟨79, IsR (.slice q.a q.n q.c), [3], false⟩, ⟨80, IsR (.slice (some x) n c), [], false⟩, ⟨81, IsR (.int .i64 (i : Int)), [], false⟩, ⟨82, IsR (.pointer (some (x.add (i * 9)))), [5, 6], false⟩, ⟨83, IsR (.pointer (some ((x.add (i * 9)).add 1))), [7], false⟩, ⟨84, IsR (.agg #[.int .u32 (q.l.ten : Int), .int .u8 (q.l.k : Int), .int .u8 (q.l.lv : Int), .int .u32 (q.l.pg : Int), .int .u64 (q.l.cm : Int), .int .u16 (q.l.gn : Int)]), [8], false⟩, ⟨85, IsR (.slice pA T.length pc), [], false⟩, ⟨86, TupB w6.heap.size err R, [4, 9, 10], false⟩, ⟨74, TupB w6.heap.size err (R), [11], false⟩, ⟨87, OwR w6.heap.size (R), [12], false⟩, ⟨88, IsR (.int .i64 (err : Int)), [12], false⟩, ⟨10, OwR w6.heap.size (R), [13], false⟩] (by kernel_rfl) (by kernel_rfl) rfl rfl rfl ⟨?_, ?_, ?_, ?_, ?_, ?_, ?_, ?_, ?_, ?_, ?_, ?_, ?_, ?_, ?_, ?_, trivial⟩ ?_
            · refine ⟨rfl, IsR.mono _, fun a W hA hb hd => takes_plain rfl (yields_value _ ?_ rfl)⟩
              have h0 : a.tmps[0]?.getD undef = .slice (some x) n c := (eval_get a 0).trans ((hA.eval (by simp)).trans rfl)
              go_simp
            · refine ⟨rfl, IsR.mono _, fun a W hA hb hd => takes_plain rfl (yields_value _ ?_ rfl)⟩
              have h5 : a.tmps[5]?.getD undef = .int .i64 (i : Int) := (eval_get a 5).trans ((hA.eval (by simp)).trans rfl)
              go_simp
            · refine ⟨rfl, IsR.mono _, fun a W hA hb hd => takes_plain rfl (yields_value _ ?_ rfl)⟩
              have h75 : a.tmps[75]?.getD undef = .slice (some x) n c := (eval_get a 75).trans (hd 0 (by simp) _ rfl)
              have h76 : a.tmps[76]?.getD undef = .int .i64 (i : Int) := (eval_get a 76).trans (hd 1 (by simp) _ rfl)
              go_simp
            · refine ⟨rfl, IsR.mono _, fun a W hA hb hd => takes_plain rfl (yields_value _ ?_ rfl)⟩
              have h77 : a.tmps[77]?.getD undef = .pointer (some (x.add (i * 9))) := (eval_get a 77).trans (hd 2 (by simp) _ rfl)
              go_simp
            · refine ⟨rfl, IsR.mono _, fun a W hA hb hd => takes_plain rfl (yields_value _ ?_ rfl)⟩
              have h78 : a.tmps[78]?.getD undef = .pointer (some (x.add (i * 9))) := (eval_get a 78).trans (hd 3 (by simp) _ rfl)
              have hbw : Below w.heap.size w W := below_tr B6.out hb S6.out
              have ac0 : W.cell? (x.add (i * 9)) = some (.slice q.a q.n q.c) := (KC.out W hbw).1
              go_simp
            · refine ⟨rfl, IsR.mono _, fun a W hA hb hd => takes_plain rfl (yields_value _ ?_ rfl)⟩
              have h0 : a.tmps[0]?.getD undef = .slice (some x) n c := (eval_get a 0).trans ((hA.eval (by simp)).trans rfl)
              go_simp
            · refine ⟨rfl, IsR.mono _, fun a W hA hb hd => takes_plain rfl (yields_value _ ?_ rfl)⟩
              have h5 : a.tmps[5]?.getD undef = .int .i64 (i : Int) := (eval_get a 5).trans ((hA.eval (by simp)).trans rfl)
              go_simp
            · refine ⟨rfl, IsR.mono _, fun a W hA hb hd => takes_plain rfl (yields_value _ ?_ rfl)⟩
              have h80 : a.tmps[80]?.getD undef = .slice (some x) n c := (eval_get a 80).trans (hd 5 (by simp) _ rfl)
              have h81 : a.tmps[81]?.getD undef = .int .i64 (i : Int) := (eval_get a 81).trans (hd 6 (by simp) _ rfl)
              go_simp
            · refine ⟨rfl, IsR.mono _, fun a W hA hb hd => takes_plain rfl (yields_value _ ?_ rfl)⟩
              have h82 : a.tmps[82]?.getD undef = .pointer (some (x.add (i * 9))) := (eval_get a 82).trans (hd 7 (by simp) _ rfl)
              go_simp
            · refine ⟨rfl, IsR.mono _, fun a W hA hb hd => takes_plain rfl (yields_value _ ?_ rfl)⟩
              have h83 : a.tmps[83]?.getD undef = .pointer (some ((x.add (i * 9)).add 1)) := (eval_get a 83).trans (hd 8 (by simp) _ rfl)
              have hbw : Below w.heap.size w W := below_tr B6.out hb S6.out
              have ac1 : W.cell? ⟨(x.add (i * 9)).block, (x.add (i * 9)).off + 1, none⟩ = some (.int .u32 (q.l.ten : Int)) := (KC.out W hbw).2 0 _ rfl
              have ac2 : W.cell? ⟨(x.add (i * 9)).block, (x.add (i * 9)).off + 2, none⟩ = some (.int .u8 (q.l.k : Int)) := (KC.out W hbw).2 1 _ rfl
              have ac3 : W.cell? ⟨(x.add (i * 9)).block, (x.add (i * 9)).off + 3, none⟩ = some (.int .u8 (q.l.lv : Int)) := (KC.out W hbw).2 2 _ rfl
              have ac4 : W.cell? ⟨(x.add (i * 9)).block, (x.add (i * 9)).off + 4, none⟩ = some (.int .u32 (q.l.pg : Int)) := (KC.out W hbw).2 3 _ rfl
              have ac5 : W.cell? ⟨(x.add (i * 9)).block, (x.add (i * 9)).off + 5, none⟩ = some (.int .u64 (q.l.cm : Int)) := (KC.out W hbw).2 4 _ rfl
              have ac6 : W.cell? ⟨(x.add (i * 9)).block, (x.add (i * 9)).off + 6, none⟩ = some (.int .u16 (q.l.gn : Int)) := (KC.out W hbw).2 5 _ rfl
              go_simp
            · refine ⟨rfl, IsR.mono _, fun a W hA hb hd => takes_plain rfl (yields_value _ ?_ rfl)⟩
              have h6 : a.tmps[6]?.getD undef = .slice pA T.length pc := (eval_get a 6).trans ((hA.eval (by simp)).trans rfl)
              go_simp
            · refine ⟨rfl, TupB.mono _ _ _, fun a W hA hb hd => takes_plain rfl ?_⟩
              have h79 : a.tmps[79]?.getD undef = .slice q.a q.n q.c := (eval_get a 79).trans (hd 4 (by simp) _ rfl)
              have h84 : a.tmps[84]?.getD undef = .agg #[.int .u32 (q.l.ten : Int), .int .u8 (q.l.k : Int), .int .u8 (q.l.lv : Int), .int .u32 (q.l.pg : Int), .int .u64 (q.l.cm : Int), .int .u16 (q.l.gn : Int)] := (eval_get a 84).trans (hd 9 (by simp) _ rfl)
              have h85 : a.tmps[85]?.getD undef = .slice pA T.length pc := (eval_get a 85).trans (hd 10 (by simp) _ rfl)
              refine yields_call 17 #[.slice q.a q.n q.c, .agg #[.int .u32 (q.l.ten : Int), .int .u8 (q.l.k : Int), .int .u8 (q.l.lv : Int), .int .u32 (q.l.pg : Int), .int .u64 (q.l.cm : Int), .int .u16 (q.l.gn : Int)], .slice pA T.length pc] (by go_simp) ((HR.out W (K6.out.ab hb) (P6.out.ab hb)).mono ?_)
              rintro e W1 ⟨v, rfl, h1, h2⟩
              exact ⟨_, rfl, ⟨v, rfl, h1.lower hb.size⟩, h2⟩
            · refine ⟨rfl, TupB.mono _ _ _, fun a W hA hb hd => takes_plain rfl ?_⟩
              obtain ⟨v0, e0, ho⟩ := hd 11 (by simp) _ rfl
              have h0 : a.tmps[86]?.getD undef = .tuple #[v0, .int .i64 ((err : Nat) : Int)] := (eval_get a 86).trans e0
              refine yields_value (.tuple #[v0, .int .i64 ((err : Nat) : Int)]) ?_ ⟨v0, rfl, ho⟩
              go_simp
            · refine ⟨rfl, OwR.mono _ _, fun a W hA hb hd => takes_plain rfl ?_⟩
              obtain ⟨v0, e0, ho⟩ := hd 12 (by simp) _ rfl
              have h0 : a.tmps[74]?.getD undef = .tuple #[v0, .int .i64 ((err : Nat) : Int)] := (eval_get a 74).trans e0
              refine yields_value v0 ?_ ho
              go_simp
            · refine ⟨rfl, IsR.mono _, fun a W hA hb hd => takes_plain rfl ?_⟩
              obtain ⟨v0, e0, ho⟩ := hd 12 (by simp) _ rfl
              have h0 : a.tmps[74]?.getD undef = .tuple #[v0, .int .i64 ((err : Nat) : Int)] := (eval_get a 74).trans e0
              refine yields_value (.int .i64 (err : Int)) ?_ rfl
              go_simp
            · refine ⟨rfl, OwR.mono _ _, fun a W hA hb hd => takes_plain rfl ?_⟩
              have ho : OwB W w6.heap.size (a.eval (.tmp 87)) (R) := hd 13 (by simp) _ rfl
              exact yields_value (a.eval (.tmp 87)) (exec_assign (.tmp 87) rfl W) ho
            intro vs w7 hR hF hb
            have V10 : Hid (OwB w7 w6.heap.size (vs 10) R) := Lib.hid (hR 15 _ rfl)
            have e75 : vs 75 = .slice (some x) n c := hR 0 _ rfl
            have e76 : vs 76 = .int .i64 (i : Int) := hR 1 _ rfl
            have e77 : vs 77 = .pointer (some (x.add (i * 9))) := hR 2 _ rfl
            have e78 : vs 78 = .pointer (some (x.add (i * 9))) := hR 3 _ rfl
            have e79 : vs 79 = .slice q.a q.n q.c := hR 4 _ rfl
            have e80 : vs 80 = .slice (some x) n c := hR 5 _ rfl
            have e81 : vs 81 = .int .i64 (i : Int) := hR 6 _ rfl
            have e82 : vs 82 = .pointer (some (x.add (i * 9))) := hR 7 _ rfl
            have e83 : vs 83 = .pointer (some ((x.add (i * 9)).add 1)) := hR 8 _ rfl
            have e84 : vs 84 = .agg #[.int .u32 (q.l.ten : Int), .int .u8 (q.l.k : Int), .int .u8 (q.l.lv : Int), .int .u32 (q.l.pg : Int), .int .u64 (q.l.cm : Int), .int .u16 (q.l.gn : Int)] := hR 9 _ rfl
            have e85 : vs 85 = .slice pA T.length pc := hR 10 _ rfl
            have e88 : vs 88 = .int .i64 (err : Int) := hR 14 _ rfl
            simp only [List.map_cons, List.map_nil, List.foldl_cons, List.foldl_nil, List.length_cons, List.length_nil, List.drop_succ_cons, List.drop_zero, Act.put, List.setIfInBounds_toArray, List.set_cons_zero, List.set_cons_succ, e75, e76, e77, e78, e79, e80, e81, e82, e83, e84, e85, e88]
            have B7 := Lib.hid (below_tr B6.out hb S6.out)
            have S7 : Hid (w.heap.size ≤ w7.heap.size) := Lib.hid B7.out.size
            have L7 := Lib.hid (L6.out.ab hb)
            have R7 := Lib.hid (R6.out.ab hb)
            have V8b := Lib.hid (V8.out.ab hb)
            have K7 := Lib.hid (K6.out.ab hb)
            have P7 := Lib.hid (P6.out.ab hb)
            clear hR hF hb V8 L6 R6 K6 P6 e75 e76 e77 e78 e79 e80 e81 e82 e83 e84 e85 e88
            generalize vs 74 = q74x at *
            generalize vs 86 = q86x at *
            generalize vs 87 = q87x at *
            generalize vs 10 = q10x at *
            obtain ⟨A8, c8, rfl, _, _⟩ := V8b.out.shape
            obtain ⟨A10, c10, rfl, _, _⟩ := V10.out.shape
            have I8 := Lib.hid (V8b.out.isB rfl)
            have I10 := Lib.hid (V10.out.isB rfl)
            go_wp2_with fail
            obtain ⟨Av, cv, rfl⟩ := row_shape R7.out.own
            refine (same_yes A8 A10 R.length R.length c8 c10 R R w7 I8.out I10.out rfl).mono ?_
            rintro e w8 ⟨rfl, rfl⟩
            by_cases h0 : err = 0
            · have t1 : ((err : Int) == 0) = true := by rw [h0]; rfl
              obtain ⟨i0, hi0, hz0, hz1, hz2⟩ := info_parts infoRs
              have VL : Hid (∀ k, (Value.slice Av S.length cv).ownBlock = some k → k < w7.heap.size) := Lib.hid fun k hk => by
                rcases R7.out.own.2 with ⟨hn, _⟩ | ⟨g', cap, cur, hn, _, hh, _⟩
                · rw [hn] at hk; cases hk
                · rw [hn] at hk
                  have : g' = k := by injection hk
                  subst this
                  exact (Array.getElem?_eq_some_iff.1 hh).1
              have VG : Hid (∀ k, (Value.slice Av S.length cv).ownBlock = some k → w.heap.size ≤ k) := Lib.hid fun k hk => own_ge9 R7.out.own k hk
              have TL : Hid (T.length ≤ 224) := Lib.hid (by rw [← HT.out]; unfold payA; cases q.s <;> simp)
              have PV := PV0
              go_wp2_with fail
              refine wp_wide5 (fun i k => i = 17 ∧ (Value.slice Av S.length cv).ownBlock = some k) [⟨100, IsR (.slice Av S.length cv), [], false⟩, ⟨101, IsR (.slice (some x) n c), [], false⟩, ⟨102, IsR (.int .i64 (i : Int)), [], false⟩, ⟨103, IsR (.pointer (some (x.add (i * 9)))), [1, 2], false⟩, ⟨104, IsR (.pointer (some (x.add (i * 9)))), [3], false⟩, ⟨105, IsR (.slice q.a q.n q.c), [4], false⟩, ⟨106, (fun z W => OwB W w7.heap.size z q.k), [5], false⟩, ⟨107, IsR (.slice (some x) n c), [], false⟩, ⟨108, IsR (.int .i64 (i : Int)), [], false⟩, ⟨109, IsR (.pointer (some (x.add (i * 9)))), [7, 8], false⟩, ⟨110, IsR (.pointer (some ((x.add (i * 9)).add 1))), [9], false⟩, ⟨111, IsR (.agg #[.int .u32 (q.l.ten : Int), .int .u8 (q.l.k : Int), .int .u8 (q.l.lv : Int), .int .u32 (q.l.pg : Int), .int .u64 (q.l.cm : Int), .int .u16 (q.l.gn : Int)]), [10], false⟩, ⟨112, IsR (.slice pA T.length pc), [], false⟩, ⟨113, (fun z W => OwB W w7.heap.size z T), [12], false⟩, ⟨114, IsR (.slice A10 R.length c10), [], false⟩, ⟨115, (fun z W => ∃ Ax cx Ay cy, z = .agg #[.slice Ax q.k.length cx, .int .u32 (q.l.ten : Int), .int .u8 (q.l.k : Int), .int .u8 (q.l.lv : Int), .int .u32 (q.l.pg : Int), .int .u64 (q.l.cm : Int), .int .u16 (q.l.gn : Int), .slice Ay T.length cy, .slice A10 R.length c10] ∧ OwB W w7.heap.size (.slice Ax q.k.length cx) q.k ∧ OwB W w7.heap.size (.slice Ay T.length cy) T), [6, 11, 13, 14], false⟩, ⟨116, (fun z W => ∃ G Ax cx Ay cy, z = .slice (some ⟨G, 0, none⟩) 1 1 ∧ CbB W G 44 #[.slice Ax q.k.length cx, .int .u32 (q.l.ten : Int), .int .u8 (q.l.k : Int), .int .u8 (q.l.lv : Int), .int .u32 (q.l.pg : Int), .int .u64 (q.l.cm : Int), .int .u16 (q.l.gn : Int), .slice Ay T.length cy, .slice A10 R.length c10] ∧ w7.heap.size ≤ G ∧ OwB W w7.heap.size (.slice Ax q.k.length cx) q.k ∧ OwB W w7.heap.size (.slice Ay T.length cy) T), [15], false⟩, ⟨117, (fun z W => ∃ Ax cx Ay cy, OwB W w7.heap.size (.slice Ax q.k.length cx) q.k ∧ OwB W w7.heap.size (.slice Ay T.length cy) T ∧ W.ownsRow w.heap.size 44 9 z (S.length + 1) (rsvs S ++ [.slice Ax q.k.length cx, .int .u32 (q.l.ten : Int), .int .u8 (q.l.k : Int), .int .u8 (q.l.lv : Int), .int .u32 (q.l.pg : Int), .int .u64 (q.l.cm : Int), .int .u16 (q.l.gn : Int), .slice Ay T.length cy, .slice A10 R.length c10])), [0, 16], false⟩] (by kernel_rfl) (by kernel_rfl) rfl rfl rfl ⟨?_, ?_, ?_, ?_, ?_, ?_, ?_, ?_, ?_, ?_, ?_, ?_, ?_, ?_, ?_, ?_, ?_, ?_, trivial⟩ ?_
              · refine ⟨rfl, IsR.monoF _ _, fun a W hA hb hd => Takes.to5 (takes_plain rfl (yields_value _ ?_ rfl)) _⟩
                have h4 : a.tmps[4]?.getD undef = .slice Av S.length cv := (eval_get a 4).trans ((hA.eval (by simp)).trans rfl)
                go_simp
              · refine ⟨rfl, IsR.monoF _ _, fun a W hA hb hd => Takes.to5 (takes_plain rfl (yields_value _ ?_ rfl)) _⟩
                have h0 : a.tmps[0]?.getD undef = .slice (some x) n c := (eval_get a 0).trans ((hA.eval (by simp)).trans rfl)
                go_simp
              · refine ⟨rfl, IsR.monoF _ _, fun a W hA hb hd => Takes.to5 (takes_plain rfl (yields_value _ ?_ rfl)) _⟩
                have h5 : a.tmps[5]?.getD undef = .int .i64 (i : Int) := (eval_get a 5).trans ((hA.eval (by simp)).trans rfl)
                go_simp
              · refine ⟨rfl, IsR.monoF _ _, fun a W hA hb hd => Takes.to5 (takes_plain rfl (yields_value _ ?_ rfl)) _⟩
                have h101 : a.tmps[101]?.getD undef = .slice (some x) n c := (eval_get a 101).trans (hd 1 (by simp) _ rfl)
                have h102 : a.tmps[102]?.getD undef = .int .i64 (i : Int) := (eval_get a 102).trans (hd 2 (by simp) _ rfl)
                go_simp
              · refine ⟨rfl, IsR.monoF _ _, fun a W hA hb hd => Takes.to5 (takes_plain rfl (yields_value _ ?_ rfl)) _⟩
                have h103 : a.tmps[103]?.getD undef = .pointer (some (x.add (i * 9))) := (eval_get a 103).trans (hd 3 (by simp) _ rfl)
                go_simp
              · refine ⟨rfl, IsR.monoF _ _, fun a W hA hb hd => Takes.to5 (takes_plain rfl (yields_value _ ?_ rfl)) _⟩
                have h104 : a.tmps[104]?.getD undef = .pointer (some (x.add (i * 9))) := (eval_get a 104).trans (hd 4 (by simp) _ rfl)
                have hbw : Below w.heap.size w W := Fr.below (hb.imp fun k ⟨j, _, _, hj⟩ => hj) VG.out B7.out S7.out
                have ac0 : W.cell? (x.add (i * 9)) = some (.slice q.a q.n q.c) := (KC.out W hbw).1
                go_simp
              · refine ⟨rfl, fun z W W1 h2 hf => OwB.fr h2 hf (fun g2 hg2 ⟨j, _, _, hj⟩ => by have := VL.out _ hj; have := own_ge9 h2.own _ hg2; omega), fun a W hA hb hd => takes5_plain rfl ?_⟩
                have h105 : a.tmps[105]?.getD undef = .slice q.a q.n q.c := (eval_get a 105).trans (hd 5 (by simp) _ rfl)
                have hbw : Below w.heap.size w W := Fr.below (hb.imp fun k ⟨j, _, _, hj⟩ => hj) VG.out B7.out S7.out
                refine Yields.to5 (yields_call 19 #[.slice q.a q.n q.c] (by go_simp) ((copy_own q.a q.n q.c q.k W (IK.out.ab hbw) (by have := QN.out; omega)).mono ?_)) _
                rintro e W1 ⟨v, rfl, h1, h2⟩
                exact ⟨_, rfl, h1.lower hb.size, h2⟩
              · refine ⟨rfl, IsR.monoF _ _, fun a W hA hb hd => Takes.to5 (takes_plain rfl (yields_value _ ?_ rfl)) _⟩
                have h0 : a.tmps[0]?.getD undef = .slice (some x) n c := (eval_get a 0).trans ((hA.eval (by simp)).trans rfl)
                go_simp
              · refine ⟨rfl, IsR.monoF _ _, fun a W hA hb hd => Takes.to5 (takes_plain rfl (yields_value _ ?_ rfl)) _⟩
                have h5 : a.tmps[5]?.getD undef = .int .i64 (i : Int) := (eval_get a 5).trans ((hA.eval (by simp)).trans rfl)
                go_simp
              · refine ⟨rfl, IsR.monoF _ _, fun a W hA hb hd => Takes.to5 (takes_plain rfl (yields_value _ ?_ rfl)) _⟩
                have h107 : a.tmps[107]?.getD undef = .slice (some x) n c := (eval_get a 107).trans (hd 7 (by simp) _ rfl)
                have h108 : a.tmps[108]?.getD undef = .int .i64 (i : Int) := (eval_get a 108).trans (hd 8 (by simp) _ rfl)
                go_simp
              · refine ⟨rfl, IsR.monoF _ _, fun a W hA hb hd => Takes.to5 (takes_plain rfl (yields_value _ ?_ rfl)) _⟩
                have h109 : a.tmps[109]?.getD undef = .pointer (some (x.add (i * 9))) := (eval_get a 109).trans (hd 9 (by simp) _ rfl)
                go_simp
              · refine ⟨rfl, IsR.monoF _ _, fun a W hA hb hd => Takes.to5 (takes_plain rfl (yields_value _ ?_ rfl)) _⟩
                have h110 : a.tmps[110]?.getD undef = .pointer (some ((x.add (i * 9)).add 1)) := (eval_get a 110).trans (hd 10 (by simp) _ rfl)
                have hbw : Below w.heap.size w W := Fr.below (hb.imp fun k ⟨j, _, _, hj⟩ => hj) VG.out B7.out S7.out
                have ac1 : W.cell? ⟨(x.add (i * 9)).block, (x.add (i * 9)).off + 1, none⟩ = some (.int .u32 (q.l.ten : Int)) := (KC.out W hbw).2 0 _ rfl
                have ac2 : W.cell? ⟨(x.add (i * 9)).block, (x.add (i * 9)).off + 2, none⟩ = some (.int .u8 (q.l.k : Int)) := (KC.out W hbw).2 1 _ rfl
                have ac3 : W.cell? ⟨(x.add (i * 9)).block, (x.add (i * 9)).off + 3, none⟩ = some (.int .u8 (q.l.lv : Int)) := (KC.out W hbw).2 2 _ rfl
                have ac4 : W.cell? ⟨(x.add (i * 9)).block, (x.add (i * 9)).off + 4, none⟩ = some (.int .u32 (q.l.pg : Int)) := (KC.out W hbw).2 3 _ rfl
                have ac5 : W.cell? ⟨(x.add (i * 9)).block, (x.add (i * 9)).off + 5, none⟩ = some (.int .u64 (q.l.cm : Int)) := (KC.out W hbw).2 4 _ rfl
                have ac6 : W.cell? ⟨(x.add (i * 9)).block, (x.add (i * 9)).off + 6, none⟩ = some (.int .u16 (q.l.gn : Int)) := (KC.out W hbw).2 5 _ rfl
                go_simp
              · refine ⟨rfl, IsR.monoF _ _, fun a W hA hb hd => Takes.to5 (takes_plain rfl (yields_value _ ?_ rfl)) _⟩
                have h6 : a.tmps[6]?.getD undef = .slice pA T.length pc := (eval_get a 6).trans ((hA.eval (by simp)).trans rfl)
                go_simp
              · refine ⟨rfl, fun z W W1 h2 hf => OwB.fr h2 hf (fun g2 hg2 ⟨j, _, _, hj⟩ => by have := VL.out _ hj; have := own_ge9 h2.own _ hg2; omega), fun a W hA hb hd => takes5_plain rfl ?_⟩
                have h112 : a.tmps[112]?.getD undef = .slice pA T.length pc := (eval_get a 112).trans (hd 12 (by simp) _ rfl)
                refine Yields.to5 (yields_call 19 #[.slice pA T.length pc] (by go_simp) ((copy_own pA T.length pc T W (P7.out.fr hb (fun y hy ⟨j, _, _, hj⟩ => PV.out y hy hj)) (by have := TL.out; omega)).mono ?_)) _
                rintro e W1 ⟨v, rfl, h1, h2⟩
                exact ⟨_, rfl, h1.lower hb.size, h2⟩
              · refine ⟨rfl, IsR.monoF _ _, fun a W hA hb hd => Takes.to5 (takes_plain rfl (yields_value _ ?_ rfl)) _⟩
                have h10 : a.tmps[10]?.getD undef = .slice A10 R.length c10 := (eval_get a 10).trans ((hA.eval (by simp)).trans rfl)
                go_simp
              · refine ⟨rfl, fun z W W1 ⟨Ax, cx, Ay, cy, h1, h2, h3⟩ hf => ⟨Ax, cx, Ay, cy, h1, h2.fr hf (fun g2 hg2 ⟨j, _, _, hj⟩ => by have := VL.out _ hj; have := own_ge9 h2.own _ hg2; omega), h3.fr hf (fun g2 hg2 ⟨j, _, _, hj⟩ => by have := VL.out _ hj; have := own_ge9 h3.own _ hg2; omega)⟩, fun a W hA hb hd => takes5_plain rfl ?_⟩
                have ox : OwB W w7.heap.size (a.eval (.tmp 106)) q.k := hd 6 (by simp) _ rfl
                have oy : OwB W w7.heap.size (a.eval (.tmp 113)) T := hd 13 (by simp) _ rfl
                obtain ⟨Ax, cx, ex, _, _⟩ := ox.shape
                obtain ⟨Ay, cy, ey, _, _⟩ := oy.shape
                rw [ex] at ox
                rw [ey] at oy
                have h106 : a.tmps[106]?.getD undef = .slice Ax q.k.length cx := (eval_get a 106).trans ex
                have h113 : a.tmps[113]?.getD undef = .slice Ay T.length cy := (eval_get a 113).trans ey
                have h111 : a.tmps[111]?.getD undef = .agg #[.int .u32 (q.l.ten : Int), .int .u8 (q.l.k : Int), .int .u8 (q.l.lv : Int), .int .u32 (q.l.pg : Int), .int .u64 (q.l.cm : Int), .int .u16 (q.l.gn : Int)] := (eval_get a 111).trans (hd 11 (by simp) _ rfl)
                have h114 : a.tmps[114]?.getD undef = .slice A10 R.length c10 := (eval_get a 114).trans (hd 14 (by simp) _ rfl)
                refine Yields.to5 (yields_value (.agg #[.slice Ax q.k.length cx, .int .u32 (q.l.ten : Int), .int .u8 (q.l.k : Int), .int .u8 (q.l.lv : Int), .int .u32 (q.l.pg : Int), .int .u64 (q.l.cm : Int), .int .u16 (q.l.gn : Int), .slice Ay T.length cy, .slice A10 R.length c10]) ?_ ⟨Ax, cx, Ay, cy, rfl, ox, oy⟩) _
                go_simp
              · refine ⟨rfl, fun z W W1 ⟨G1, Ax, cx, Ay, cy, h1, h4, h5, h2, h3⟩ hf => ⟨G1, Ax, cx, Ay, cy, h1, h4.fr hf (fun ⟨j, _, _, hj⟩ => by have := VL.out _ hj; omega), h5, h2.fr hf (fun g2 hg2 ⟨j, _, _, hj⟩ => by have := VL.out _ hj; have := own_ge9 h2.own _ hg2; omega), h3.fr hf (fun g2 hg2 ⟨j, _, _, hj⟩ => by have := VL.out _ hj; have := own_ge9 h3.own _ hg2; omega)⟩, fun a W hA hb hd => takes5_plain rfl ?_⟩
                obtain ⟨Ax, cx, Ay, cy, hz, ox, oy⟩ := hd 15 (by simp) _ rfl
                have h115 : a.tmps[115]?.getD undef = .agg #[.slice Ax q.k.length cx, .int .u32 (q.l.ten : Int), .int .u8 (q.l.k : Int), .int .u8 (q.l.lv : Int), .int .u32 (q.l.pg : Int), .int .u64 (q.l.cm : Int), .int .u16 (q.l.gn : Int), .slice Ay T.length cy, .slice A10 R.length c10] := (eval_get a 115).trans hz
                refine .inl ⟨.slice (some ⟨W.heap.size, 0, none⟩) 1 1, W.alloc (.cells #[.slice Ax q.k.length cx, .int .u32 (q.l.ten : Int), .int .u8 (q.l.k : Int), .int .u8 (q.l.lv : Int), .int .u32 (q.l.pg : Int), .int .u64 (q.l.cm : Int), .int .u16 (q.l.gn : Int), .slice Ay T.length cy, .slice A10 R.length c10] 44), ?_, ⟨_, Ax, cx, Ay, cy, rfl, CbB.new _ _ _, hb.size, ox.ab ((Below.refl _ _).alloc (Nat.le_refl _) _), oy.ab ((Below.refl _ _).alloc (Nat.le_refl _) _)⟩, Fr.of ((Below.refl _ _).alloc (Nat.le_refl _) _) _⟩
                go_simp
              · refine ⟨rfl, fun z W W1 ⟨Ax, cx, Ay, cy, h2, h3, h4⟩ hf => ⟨Ax, cx, Ay, cy, h2.fr hf (fun g2 hg2 ⟨j, _, _, hj⟩ => by have := VL.out _ hj; have := own_ge9 h2.own _ hg2; omega), h3.fr hf (fun g2 hg2 ⟨j, _, _, hj⟩ => by have := VL.out _ hj; have := own_ge9 h3.own _ hg2; omega), row_fr h4 hf (fun k hk ⟨j, hj, hj2, _⟩ => hj hj2)⟩, fun a W hA hb hd => takes5_plain rfl ?_⟩
                have hs : a.eval (.tmp 100) = .slice Av S.length cv := hd 0 (by simp) _ rfl
                obtain ⟨Gs, Ax, cx, Ay, cy, he, hcb, hGs, ox, oy⟩ := hd 16 (by simp) _ rfl
                have hx : a.eval (.tmp 116) = .slice (some ⟨Gs, 0, none⟩) 1 1 := he
                have hown := row_fr R7.out.own hb (fun k hk ⟨j, hj, hj2, _⟩ => hj hj2)
                obtain ⟨v1, W1, hrun, r1, r2, _⟩ := run_append_own (P := Try.prog) W w.heap.size 26 26 44 i0 _ 9 104 Try.underlying26 hi0 hz0 hz1 hz2 rfl (by decide) (.slice Av S.length cv) S.length (rsvs S) hown ⟨Gs, 0, none⟩ 1 1 [.slice Ax q.k.length cx, .int .u32 (q.l.ten : Int), .int .u8 (q.l.k : Int), .int .u8 (q.l.lv : Int), .int .u32 (q.l.pg : Int), .int .u64 (q.l.cm : Int), .int .u16 (q.l.gn : Int), .slice Ay T.length cy, .slice A10 R.length c10] rfl (row_at hcb) (by simp [Value.oneCell']) (by have := SL.out; simp only [maxLen]; omega) (by have := SL.out; omega) (Nat.le_trans S7.out hb.size)
                refine .inl ⟨v1, W1, ?_, ⟨Ax, cx, Ay, cy, ox.fr (Fr.grown r2) (fun g2 hg2 hk => by have := VL.out _ hk; have := own_ge9 ox.own _ hg2; omega), oy.fr (Fr.grown r2) (fun g2 hg2 hk => by have := VL.out _ hk; have := own_ge9 oy.own _ hg2; omega), r1⟩, (Fr.grown r2).imp fun k hk => ⟨rfl, hk⟩⟩
                unfold execOp
                simp only [resolve, invoke, builtin, Sem.run_bind, Sem.run_pure, Result.andThen_ok, List.map_toArray, List.map_cons, List.map_nil, hs, hx, hrun]
              intro vs w9 hR hb
              obtain ⟨Ax, cx, Ay, cy, ox, oy, hrow⟩ : (∃ Ax cx Ay cy, OwB w9 w7.heap.size (.slice Ax q.k.length cx) q.k ∧ OwB w9 w7.heap.size (.slice Ay T.length cy) T ∧ w9.ownsRow w.heap.size 44 9 (vs 117) (S.length + 1) (rsvs S ++ [.slice Ax q.k.length cx, .int .u32 (q.l.ten : Int), .int .u8 (q.l.k : Int), .int .u8 (q.l.lv : Int), .int .u32 (q.l.pg : Int), .int .u64 (q.l.cm : Int), .int .u16 (q.l.gn : Int), .slice Ay T.length cy, .slice A10 R.length c10])) := hR 17 _ rfl
              have e100 : vs 100 = .slice Av S.length cv := hR 0 _ rfl
              have e101 : vs 101 = .slice (some x) n c := hR 1 _ rfl
              have e102 : vs 102 = .int .i64 (i : Int) := hR 2 _ rfl
              have e103 : vs 103 = .pointer (some (x.add (i * 9))) := hR 3 _ rfl
              have e104 : vs 104 = .pointer (some (x.add (i * 9))) := hR 4 _ rfl
              have e105 : vs 105 = .slice q.a q.n q.c := hR 5 _ rfl
              have e107 : vs 107 = .slice (some x) n c := hR 7 _ rfl
              have e108 : vs 108 = .int .i64 (i : Int) := hR 8 _ rfl
              have e109 : vs 109 = .pointer (some (x.add (i * 9))) := hR 9 _ rfl
              have e110 : vs 110 = .pointer (some ((x.add (i * 9)).add 1)) := hR 10 _ rfl
              have e111 : vs 111 = .agg #[.int .u32 (q.l.ten : Int), .int .u8 (q.l.k : Int), .int .u8 (q.l.lv : Int), .int .u32 (q.l.pg : Int), .int .u64 (q.l.cm : Int), .int .u16 (q.l.gn : Int)] := hR 11 _ rfl
              have e112 : vs 112 = .slice pA T.length pc := hR 12 _ rfl
              have e114 : vs 114 = .slice A10 R.length c10 := hR 14 _ rfl
              simp only [List.map_cons, List.map_nil, List.foldl_cons, List.foldl_nil, List.length_cons, List.length_nil, List.drop_succ_cons, List.drop_zero, Act.put, List.setIfInBounds_toArray, List.set_cons_zero, List.set_cons_succ, e100, e101, e102, e103, e104, e105, e107, e108, e109, e110, e111, e112, e114]
              have FR : Hid (Fr w7 w9 (fun k => (Value.slice Av S.length cv).ownBlock = some k)) := Lib.hid (hb.imp fun k ⟨j, _, hj⟩ => hj)
              obtain ⟨S', hS'⟩ : ∃ S', S' = S ++ [(⟨⟨q.l, q.k, T, R⟩, .slice Ax q.k.length cx, .slice Ay T.length cy, .slice A10 R.length c10⟩ : Rs)] := ⟨_, rfl⟩
              have hmap : S'.map (·.s) = S.map (·.s) ++ [⟨q.l, q.k, T, R⟩] := by rw [hS', List.map_append]; rfl
              have hlen : S'.length = S.length + 1 := by rw [hS', List.length_append]; rfl
              have R9 : Hid (RlB w9 w.heap.size (vs 117) S') := Lib.hid (by
                have hold : ∀ z l, OwB w7 w.heap.size z l → OwB w9 w.heap.size z l := fun z l hz => hz.fr FR.out (fun k hk e => row_own_ne R7.out.own hz (by decide) k hk e)
                refine ⟨?_, fun p hp => ?_⟩
                · rw [hlen, hS', rsvs_snoc]
                  exact hrow
                · rw [hS'] at hp
                  rcases List.mem_append.1 hp with hp | hp
                  · exact ⟨hold _ _ (R7.out.vals p hp).1, hold _ _ (R7.out.vals p hp).2.1, hold _ _ (R7.out.vals p hp).2.2⟩
                  · rw [List.mem_singleton] at hp
                    subst hp
                    exact ⟨ox.lower S7.out, oy.lower S7.out, hold _ _ (V10.out.lower S6.out)⟩)
              have L9 : Hid (LgB w9 w.heap.size g (S'.map (·.s))) := Lib.hid (by
                obtain ⟨u2, hc2, hr2⟩ := L7.out.box
                have hp2 : pushS (S.map (·.s)) ⟨q.l, q.k, T, R⟩ err = S'.map (·.s) := by rw [hmap]; unfold pushS; rw [if_pos h0]
                rw [hp2] at hr2
                exact ⟨Nat.le_trans S7.out FR.out.size, u2, hc2.fr FR.out (row_ne R7.out.own hc2 (by decide)), row_fr hr2 FR.out (fun k hk e => row_row_ne R7.out.own hr2 (by decide) k hk e)⟩)
              have D9 : Hid (∀ s ∈ S'.map (·.s), SlDone s) := Lib.hid fun s hs => by
                rw [hmap] at hs
                rcases List.mem_append.1 hs with hs | hs
                · exact DN.out s hs
                · rw [List.mem_singleton] at hs
                  subst hs
                  have hE := HE.out
                  rw [h0] at hE
                  exact ⟨⟨LOK.out, K7.out.2, P7.out.2, I8.out.2⟩, hE⟩
              have SL9 : Hid (S'.length ≤ i + 1) := Lib.hid (by have := SI.out; omega)
              have B9 := Lib.hid (Fr.below FR.out VG.out B7.out S7.out)
              have hh : (S'.map (·.s)).any (fun s => decide (s.blk = R)) = true := by rw [hmap, List.any_append]; simp
              have hk : (S'.map (·.s)).any (fun s => (decide (s.l = q.l) && decide (s.blk = R))) = true := by rw [hmap, List.any_append]; simp
              have I9 : Hid (IsB w9 A8 R.length c8 R) := Lib.hid (I8.out.fr FR.out (fun y hy e => row_own_ne R7.out.own V8b.out (by decide) y.block (by rw [hy]; rfl) e))
              clear hR hb ox oy hrow hS' hmap hlen h0 VL VG TL PV0 L7 R7 V8b V10 K7 P7 I8 I10 DN FR hi0 hz0 hz1 hz2 RL5 GU UR FG FB IK5 HS HR e100 e101 e102 e103 e104 e105 e107 e108 e109 e110 e111 e112 e114
              generalize vs 106 = q106x at *
              generalize vs 113 = q113x at *
              generalize vs 115 = q115x at *
              generalize vs 116 = q116x at *
              generalize vs 117 = q117x at *
              obtain ⟨Aw, cw, rfl⟩ := row_shape R9.out.own
              have HC := Lib.hid fun W h => count_any w.heap.size g (S'.map (·.s)) W h
              have SB : Hid (S'.length ≤ 61) := Lib.hid (by have := SL9.out; have := N60.out; have := HLT.out; omega)
              have YB : Hid (∀ s ∈ S'.map (·.s), Byt s.blk) := Lib.hid fun s hs => (D9.out s hs).1.2.2.2
              have HH := Lib.hid fun W h1 h2 => has_any w.heap.size g (S'.map (·.s)) A8 R.length c8 R W h1 (by rw [List.length_map]; have := SB.out; omega) h2 YB.out
              have HK := Lib.hid fun W h1 h2 => knows_any w.heap.size g (S'.map (·.s)) q.l A8 R.length c8 R W h1 (by rw [List.length_map]; have := SB.out; omega) h2 YB.out
              have HO := Lib.hid fun W h1 h2 => knows_any w.heap.size g (S'.map (·.s)) ⟨(q.l.ten + 1) % 4294967296, q.l.k, q.l.lv, q.l.pg, q.l.cm, q.l.gn⟩ A8 R.length c8 R W h1 (by rw [List.length_map]; have := SB.out; omega) h2 YB.out
              have HP := Lib.hid fun W h1 h2 => rKnows_any w.heap.size (.slice Aw S'.length cw) S' ⟨(q.l.ten + 1) % 4294967296, q.l.k, q.l.lv, q.l.pg, q.l.cm, q.l.gn⟩ A8 R.length c8 R W h1 (by have := SB.out; omega) h2
              have hsame : S'.any (fun p => (decide (p.s.l = (⟨(q.l.ten + 1) % 4294967296, q.l.k, q.l.lv, q.l.pg, q.l.cm, q.l.gn⟩ : Lb)) && decide (p.s.blk = R))) = (S'.map (·.s)).any (fun s => (decide (s.l = (⟨(q.l.ten + 1) % 4294967296, q.l.k, q.l.lv, q.l.pg, q.l.cm, q.l.gn⟩ : Lb)) && decide (s.blk = R))) := by rw [List.any_map]; rfl
              rw [hsame] at HP
              rw [hh] at HH
              rw [hk] at HK
              rw [lab_cells] at HK HO HP
              rw [List.length_map] at HC
              simp only at HO HP
              generalize (S'.map (·.s)).any (fun s => (decide (s.l = (⟨(q.l.ten + 1) % 4294967296, q.l.k, q.l.lv, q.l.pg, q.l.cm, q.l.gn⟩ : Lb)) && decide (s.blk = R))) = bq at *
              have hwr : IntKind.u32.wrap ((q.l.ten : Int) + 1) = (((q.l.ten + 1) % 4294967296 : Nat) : Int) := by have := LOK.out.ten; exact wrap_ten q.l.ten this
              have DA : Hid (Below w9.heap.size w9 (w9.alloc (.cells #[.int .u32 (((q.l.ten + 1) % 4294967296 : Nat) : Int), .int .u8 (q.l.k : Int), .int .u8 (q.l.lv : Int), .int .u32 (q.l.pg : Int), .int .u64 (q.l.cm : Int), .int .u16 (q.l.gn : Int)] 35))) := Lib.hid ((Below.refl _ _).alloc (Nat.le_refl _) _)
              have CA : Hid (CbB (w9.alloc (.cells #[.int .u32 (((q.l.ten + 1) % 4294967296 : Nat) : Int), .int .u8 (q.l.k : Int), .int .u8 (q.l.lv : Int), .int .u32 (q.l.pg : Int), .int .u64 (q.l.cm : Int), .int .u16 (q.l.gn : Int)] 35)) w9.heap.size 35 #[.int .u32 (((q.l.ten + 1) % 4294967296 : Nat) : Int), .int .u8 (q.l.k : Int), .int .u8 (q.l.lv : Int), .int .u32 (q.l.pg : Int), .int .u64 (q.l.cm : Int), .int .u16 (q.l.gn : Int)]) := Lib.hid (CbB.new _ _ _)
              have ac1 : w9.cell? ⟨(x.add (i * 9)).block, (x.add (i * 9)).off + 1, none⟩ = some (.int .u32 (q.l.ten : Int)) := (KC.out w9 B9.out).2 0 _ rfl
              have ac2 : w9.cell? ⟨(x.add (i * 9)).block, (x.add (i * 9)).off + 2, none⟩ = some (.int .u8 (q.l.k : Int)) := (KC.out w9 B9.out).2 1 _ rfl
              have ac3 : w9.cell? ⟨(x.add (i * 9)).block, (x.add (i * 9)).off + 3, none⟩ = some (.int .u8 (q.l.lv : Int)) := (KC.out w9 B9.out).2 2 _ rfl
              have ac4 : w9.cell? ⟨(x.add (i * 9)).block, (x.add (i * 9)).off + 4, none⟩ = some (.int .u32 (q.l.pg : Int)) := (KC.out w9 B9.out).2 3 _ rfl
              have ac5 : w9.cell? ⟨(x.add (i * 9)).block, (x.add (i * 9)).off + 5, none⟩ = some (.int .u64 (q.l.cm : Int)) := (KC.out w9 B9.out).2 4 _ rfl
              have ac6 : w9.cell? ⟨(x.add (i * 9)).block, (x.add (i * 9)).off + 6, none⟩ = some (.int .u16 (q.l.gn : Int)) := (KC.out w9 B9.out).2 5 _ rfl
              have BA := Lib.hid (below_tr B9.out DA.out B9.out.size)
              clear hh hk hsame
              go_wp2_with fail
              refine (HC.out _ (L9.out.ab DA.out)).mono ?_
              rintro e wA ⟨rfl, rfl⟩
              go_wp2_with fail
              refine (HH.out _ (L9.out.ab DA.out) (I9.out.ab DA.out)).mono ?_
              rintro e wB ⟨rfl, hb⟩
              have DB := Lib.hid (below_tr DA.out hb DA.out.size)
              have CB := Lib.hid (CA.out.ab hb)
              have BB := Lib.hid (below_tr B9.out DB.out B9.out.size)
              clear hb ac1 ac2 ac3 ac4 ac5 ac6
              have ac1 : wB.cell? ⟨(x.add (i * 9)).block, (x.add (i * 9)).off + 1, none⟩ = some (.int .u32 (q.l.ten : Int)) := (KC.out wB BB.out).2 0 _ rfl
              have ac2 : wB.cell? ⟨(x.add (i * 9)).block, (x.add (i * 9)).off + 2, none⟩ = some (.int .u8 (q.l.k : Int)) := (KC.out wB BB.out).2 1 _ rfl
              have ac3 : wB.cell? ⟨(x.add (i * 9)).block, (x.add (i * 9)).off + 3, none⟩ = some (.int .u8 (q.l.lv : Int)) := (KC.out wB BB.out).2 2 _ rfl
              have ac4 : wB.cell? ⟨(x.add (i * 9)).block, (x.add (i * 9)).off + 4, none⟩ = some (.int .u32 (q.l.pg : Int)) := (KC.out wB BB.out).2 3 _ rfl
              have ac5 : wB.cell? ⟨(x.add (i * 9)).block, (x.add (i * 9)).off + 5, none⟩ = some (.int .u64 (q.l.cm : Int)) := (KC.out wB BB.out).2 4 _ rfl
              have ac6 : wB.cell? ⟨(x.add (i * 9)).block, (x.add (i * 9)).off + 6, none⟩ = some (.int .u16 (q.l.gn : Int)) := (KC.out wB BB.out).2 5 _ rfl
              go_wp2_with fail
              refine (HK.out _ (L9.out.ab DB.out) (I9.out.ab DB.out)).mono ?_
              rintro e wD ⟨rfl, hb⟩
              have DD := Lib.hid (below_tr DB.out hb DB.out.size)
              have CD := Lib.hid (CB.out.ab hb)
              have BD := Lib.hid (below_tr B9.out DD.out B9.out.size)
              have LD := Lib.hid (L9.out.ab DD.out)
              have ID := Lib.hid (I9.out.ab DD.out)
              have RD := Lib.hid (R9.out.ab DD.out)
              clear hb HH HK HC DA DB CA CB BA BB hwr L9 R9 I9 B9 ac1 ac2 ac3 ac4 ac5 ac6
              generalize w9.heap.size = bx at *
              go_wp2_with fail
              refine wp_wide3 [⟨153, IsR (.pointer (some ⟨g, 0, none⟩)), [], false⟩, ⟨154, IsR (.agg #[.int .u32 (((q.l.ten + 1) % 4294967296 : Nat) : Int), .int .u8 (q.l.k : Int), .int .u8 (q.l.lv : Int), .int .u32 (q.l.pg : Int), .int .u64 (q.l.cm : Int), .int .u16 (q.l.gn : Int)]), [], false⟩, ⟨155, IsR (.slice A8 R.length c8), [], false⟩, ⟨156, IsR (.bool bq), [0, 1, 2], false⟩, ⟨157, IsR ((.slice Aw S'.length cw)), [], false⟩, ⟨158, IsR (.agg #[.int .u32 (((q.l.ten + 1) % 4294967296 : Nat) : Int), .int .u8 (q.l.k : Int), .int .u8 (q.l.lv : Int), .int .u32 (q.l.pg : Int), .int .u64 (q.l.cm : Int), .int .u16 (q.l.gn : Int)]), [], false⟩, ⟨159, IsR (.slice A8 R.length c8), [], false⟩, ⟨160, IsR (.bool bq), [4, 5, 6], false⟩] (by kernel_rfl) (by kernel_rfl) rfl rfl rfl ⟨?_, ?_, ?_, ?_, ?_, ?_, ?_, ?_, trivial⟩ ?_
              · refine ⟨rfl, IsR.mono _, fun a W hA hb hd => takes_plain rfl (yields_value _ ?_ rfl)⟩
                have h3 : a.tmps[3]?.getD undef = .pointer (some ⟨g, 0, none⟩) := (eval_get a 3).trans ((hA.eval (by simp)).trans rfl)
                go_simp
              · refine ⟨rfl, IsR.mono _, fun a W hA hb hd => takes_plain rfl (yields_value _ ?_ rfl)⟩
                have h12 : a.tmps[12]?.getD undef = .pointer (some ⟨bx, 0, none⟩) := (eval_get a 12).trans ((hA.eval (by simp)).trans rfl)
                have hl := CD.out.ab hb
                have l0 := hl.cell (k := 0) rfl
                have l1 := hl.cell (k := 1) rfl
                have l2 := hl.cell (k := 2) rfl
                have l3 := hl.cell (k := 3) rfl
                have l4 := hl.cell (k := 4) rfl
                have l5 := hl.cell (k := 5) rfl
                go_simp
              · refine ⟨rfl, IsR.mono _, fun a W hA hb hd => takes_plain rfl (yields_value _ ?_ rfl)⟩
                have h8 : a.tmps[8]?.getD undef = .slice A8 R.length c8 := (eval_get a 8).trans ((hA.eval (by simp)).trans rfl)
                go_simp
              · refine ⟨rfl, IsR.mono _, fun a W hA hb hd => takes_plain rfl ?_⟩
                have h153 : a.tmps[153]?.getD undef = .pointer (some ⟨g, 0, none⟩) := (eval_get a 153).trans (hd 0 (by simp) _ rfl)
                have h154 : a.tmps[154]?.getD undef = .agg #[.int .u32 (((q.l.ten + 1) % 4294967296 : Nat) : Int), .int .u8 (q.l.k : Int), .int .u8 (q.l.lv : Int), .int .u32 (q.l.pg : Int), .int .u64 (q.l.cm : Int), .int .u16 (q.l.gn : Int)] := (eval_get a 154).trans (hd 1 (by simp) _ rfl)
                have h155 : a.tmps[155]?.getD undef = .slice A8 R.length c8 := (eval_get a 155).trans (hd 2 (by simp) _ rfl)
                refine yields_call 22 #[.pointer (some ⟨g, 0, none⟩), .agg #[.int .u32 (((q.l.ten + 1) % 4294967296 : Nat) : Int), .int .u8 (q.l.k : Int), .int .u8 (q.l.lv : Int), .int .u32 (q.l.pg : Int), .int .u64 (q.l.cm : Int), .int .u16 (q.l.gn : Int)], .slice A8 R.length c8] (by go_simp) ((HO.out W (LD.out.ab hb) (ID.out.ab hb)).mono ?_)
                rintro e W1 ⟨rfl, h1⟩
                exact ⟨_, rfl, rfl, h1⟩
              · refine ⟨rfl, IsR.mono _, fun a W hA hb hd => takes_plain rfl (yields_value _ ?_ rfl)⟩
                have h4 : a.tmps[4]?.getD undef = (.slice Aw S'.length cw) := (eval_get a 4).trans ((hA.eval (by simp)).trans rfl)
                go_simp
              · refine ⟨rfl, IsR.mono _, fun a W hA hb hd => takes_plain rfl (yields_value _ ?_ rfl)⟩
                have h12 : a.tmps[12]?.getD undef = .pointer (some ⟨bx, 0, none⟩) := (eval_get a 12).trans ((hA.eval (by simp)).trans rfl)
                have hl := CD.out.ab hb
                have l0 := hl.cell (k := 0) rfl
                have l1 := hl.cell (k := 1) rfl
                have l2 := hl.cell (k := 2) rfl
                have l3 := hl.cell (k := 3) rfl
                have l4 := hl.cell (k := 4) rfl
                have l5 := hl.cell (k := 5) rfl
                go_simp
              · refine ⟨rfl, IsR.mono _, fun a W hA hb hd => takes_plain rfl (yields_value _ ?_ rfl)⟩
                have h8 : a.tmps[8]?.getD undef = .slice A8 R.length c8 := (eval_get a 8).trans ((hA.eval (by simp)).trans rfl)
                go_simp
              · refine ⟨rfl, IsR.mono _, fun a W hA hb hd => takes_plain rfl ?_⟩
                have h157 : a.tmps[157]?.getD undef = (.slice Aw S'.length cw) := (eval_get a 157).trans (hd 4 (by simp) _ rfl)
                have h158 : a.tmps[158]?.getD undef = .agg #[.int .u32 (((q.l.ten + 1) % 4294967296 : Nat) : Int), .int .u8 (q.l.k : Int), .int .u8 (q.l.lv : Int), .int .u32 (q.l.pg : Int), .int .u64 (q.l.cm : Int), .int .u16 (q.l.gn : Int)] := (eval_get a 158).trans (hd 5 (by simp) _ rfl)
                have h159 : a.tmps[159]?.getD undef = .slice A8 R.length c8 := (eval_get a 159).trans (hd 6 (by simp) _ rfl)
                refine yields_call 23 #[(.slice Aw S'.length cw), .agg #[.int .u32 (((q.l.ten + 1) % 4294967296 : Nat) : Int), .int .u8 (q.l.k : Int), .int .u8 (q.l.lv : Int), .int .u32 (q.l.pg : Int), .int .u64 (q.l.cm : Int), .int .u16 (q.l.gn : Int)], .slice A8 R.length c8] (by go_simp) ((HP.out W (RD.out.ab hb) (ID.out.ab hb)).mono ?_)
                rintro e W1 ⟨rfl, h1⟩
                exact ⟨_, rfl, rfl, h1⟩
              intro vs wE hR hF hb
              have e153 : vs 153 = .pointer (some ⟨g, 0, none⟩) := hR 0 _ rfl
              have e154 : vs 154 = .agg #[.int .u32 (((q.l.ten + 1) % 4294967296 : Nat) : Int), .int .u8 (q.l.k : Int), .int .u8 (q.l.lv : Int), .int .u32 (q.l.pg : Int), .int .u64 (q.l.cm : Int), .int .u16 (q.l.gn : Int)] := hR 1 _ rfl
              have e155 : vs 155 = .slice A8 R.length c8 := hR 2 _ rfl
              have e156 : vs 156 = .bool bq := hR 3 _ rfl
              have e157 : vs 157 = (.slice Aw S'.length cw) := hR 4 _ rfl
              have e158 : vs 158 = .agg #[.int .u32 (((q.l.ten + 1) % 4294967296 : Nat) : Int), .int .u8 (q.l.k : Int), .int .u8 (q.l.lv : Int), .int .u32 (q.l.pg : Int), .int .u64 (q.l.cm : Int), .int .u16 (q.l.gn : Int)] := hR 5 _ rfl
              have e159 : vs 159 = .slice A8 R.length c8 := hR 6 _ rfl
              have e160 : vs 160 = .bool bq := hR 7 _ rfl
              simp only [List.map_cons, List.map_nil, List.foldl_cons, List.foldl_nil, List.length_cons, List.length_nil, List.drop_succ_cons, List.drop_zero, Act.put, List.setIfInBounds_toArray, List.set_cons_zero, List.set_cons_succ, e153, e154, e155, e156, e157, e158, e159, e160]
              have DE := Lib.hid (below_tr BD.out hb BD.out.size)
              have LE := Lib.hid (LD.out.ab hb)
              have RE := Lib.hid (RD.out.ab hb)
              clear hR hF hb HO HP LD RD ID CD BD DD e153 e154 e155 e156 e157 e158 e159 e160
              have hbq : (bq != bq) = false := by cases bq <;> rfl
              go_wp2_with fail
              go_roundw
              case rel => first
                | exact ⟨i + 1, S', HLT.out, by go_num, SL9.out, RE.out, LE.out, D9.out, DE.out⟩
                | ((repeat apply Exists.intro); exact ⟨⟨i + 1, S', HLT.out, by go_num, SL9.out, RE.out, LE.out, D9.out, DE.out⟩, rfl⟩)
              case measure => simp [intOf]; have := HLT.out; omega
            · have t1 : ((err : Int) == 0) = false := by rw [beq_eq_false_iff_ne]; omega
              have hR0 : ∀ r, R ≠ 67 :: r := fun r e => by
                have hE := HE.out
                unfold sealP at hE
                split at hE
                · exact h0 (congrArg Prod.snd hE).symm
                · have := congrArg Prod.fst hE
                  simp only at this
                  rw [← this] at e
                  cases e
              have L9 : Hid (LgB w7 w.heap.size g (S.map (·.s))) := Lib.hid (by
                have h := L7.out
                unfold pushS at h
                rwa [if_neg h0] at h)
              have R9 := R7
              have D9 := DN
              have SL9 : Hid (S.length ≤ i + 1) := Lib.hid (by have := SI.out; omega)
              have B9 := B7
              have I9 := I8
              have hh : (S.map (·.s)).any (fun s => decide (s.blk = R)) = false := any_no DN.out hR0
              have hk : (S.map (·.s)).any (fun s => (decide (s.l = q.l) && decide (s.blk = R))) = false := any_no2 DN.out hR0 q.l
              clear h0 hR0 PV0 L7 R7 V8b V10 K7 P7 I8 I10 DN RL5 GU UR FG FB IK5 HS HR
              obtain ⟨S', hS'⟩ : ∃ S', S = S' := ⟨_, rfl⟩
              rw [hS'] at L9 R9 D9 SL9 hh hk ⊢
              obtain ⟨w9, hw9⟩ : ∃ w9, w7 = w9 := ⟨_, rfl⟩
              rw [hw9] at L9 R9 B9 I9 ⊢
              have HC := Lib.hid fun W h => count_any w.heap.size g (S'.map (·.s)) W h
              have SB : Hid (S'.length ≤ 61) := Lib.hid (by have := SL9.out; have := N60.out; have := HLT.out; omega)
              have YB : Hid (∀ s ∈ S'.map (·.s), Byt s.blk) := Lib.hid fun s hs => (D9.out s hs).1.2.2.2
              have HH := Lib.hid fun W h1 h2 => has_any w.heap.size g (S'.map (·.s)) A8 R.length c8 R W h1 (by rw [List.length_map]; have := SB.out; omega) h2 YB.out
              have HK := Lib.hid fun W h1 h2 => knows_any w.heap.size g (S'.map (·.s)) q.l A8 R.length c8 R W h1 (by rw [List.length_map]; have := SB.out; omega) h2 YB.out
              have HO := Lib.hid fun W h1 h2 => knows_any w.heap.size g (S'.map (·.s)) ⟨(q.l.ten + 1) % 4294967296, q.l.k, q.l.lv, q.l.pg, q.l.cm, q.l.gn⟩ A8 R.length c8 R W h1 (by rw [List.length_map]; have := SB.out; omega) h2 YB.out
              have HP := Lib.hid fun W h1 h2 => rKnows_any w.heap.size (.slice Av S'.length cv) S' ⟨(q.l.ten + 1) % 4294967296, q.l.k, q.l.lv, q.l.pg, q.l.cm, q.l.gn⟩ A8 R.length c8 R W h1 (by have := SB.out; omega) h2
              have hsame : S'.any (fun p => (decide (p.s.l = (⟨(q.l.ten + 1) % 4294967296, q.l.k, q.l.lv, q.l.pg, q.l.cm, q.l.gn⟩ : Lb)) && decide (p.s.blk = R))) = (S'.map (·.s)).any (fun s => (decide (s.l = (⟨(q.l.ten + 1) % 4294967296, q.l.k, q.l.lv, q.l.pg, q.l.cm, q.l.gn⟩ : Lb)) && decide (s.blk = R))) := by rw [List.any_map]; rfl
              rw [hsame] at HP
              rw [hh] at HH
              rw [hk] at HK
              rw [lab_cells] at HK HO HP
              rw [List.length_map] at HC
              simp only at HO HP
              generalize (S'.map (·.s)).any (fun s => (decide (s.l = (⟨(q.l.ten + 1) % 4294967296, q.l.k, q.l.lv, q.l.pg, q.l.cm, q.l.gn⟩ : Lb)) && decide (s.blk = R))) = bq at *
              have hwr : IntKind.u32.wrap ((q.l.ten : Int) + 1) = (((q.l.ten + 1) % 4294967296 : Nat) : Int) := by have := LOK.out.ten; exact wrap_ten q.l.ten this
              have DA : Hid (Below w9.heap.size w9 (w9.alloc (.cells #[.int .u32 (((q.l.ten + 1) % 4294967296 : Nat) : Int), .int .u8 (q.l.k : Int), .int .u8 (q.l.lv : Int), .int .u32 (q.l.pg : Int), .int .u64 (q.l.cm : Int), .int .u16 (q.l.gn : Int)] 35))) := Lib.hid ((Below.refl _ _).alloc (Nat.le_refl _) _)
              have CA : Hid (CbB (w9.alloc (.cells #[.int .u32 (((q.l.ten + 1) % 4294967296 : Nat) : Int), .int .u8 (q.l.k : Int), .int .u8 (q.l.lv : Int), .int .u32 (q.l.pg : Int), .int .u64 (q.l.cm : Int), .int .u16 (q.l.gn : Int)] 35)) w9.heap.size 35 #[.int .u32 (((q.l.ten + 1) % 4294967296 : Nat) : Int), .int .u8 (q.l.k : Int), .int .u8 (q.l.lv : Int), .int .u32 (q.l.pg : Int), .int .u64 (q.l.cm : Int), .int .u16 (q.l.gn : Int)]) := Lib.hid (CbB.new _ _ _)
              have ac1 : w9.cell? ⟨(x.add (i * 9)).block, (x.add (i * 9)).off + 1, none⟩ = some (.int .u32 (q.l.ten : Int)) := (KC.out w9 B9.out).2 0 _ rfl
              have ac2 : w9.cell? ⟨(x.add (i * 9)).block, (x.add (i * 9)).off + 2, none⟩ = some (.int .u8 (q.l.k : Int)) := (KC.out w9 B9.out).2 1 _ rfl
              have ac3 : w9.cell? ⟨(x.add (i * 9)).block, (x.add (i * 9)).off + 3, none⟩ = some (.int .u8 (q.l.lv : Int)) := (KC.out w9 B9.out).2 2 _ rfl
              have ac4 : w9.cell? ⟨(x.add (i * 9)).block, (x.add (i * 9)).off + 4, none⟩ = some (.int .u32 (q.l.pg : Int)) := (KC.out w9 B9.out).2 3 _ rfl
              have ac5 : w9.cell? ⟨(x.add (i * 9)).block, (x.add (i * 9)).off + 5, none⟩ = some (.int .u64 (q.l.cm : Int)) := (KC.out w9 B9.out).2 4 _ rfl
              have ac6 : w9.cell? ⟨(x.add (i * 9)).block, (x.add (i * 9)).off + 6, none⟩ = some (.int .u16 (q.l.gn : Int)) := (KC.out w9 B9.out).2 5 _ rfl
              have BA := Lib.hid (below_tr B9.out DA.out B9.out.size)
              clear hh hk hsame
              go_wp2_with fail
              refine (HC.out _ (L9.out.ab DA.out)).mono ?_
              rintro e wA ⟨rfl, rfl⟩
              go_wp2_with fail
              refine (HH.out _ (L9.out.ab DA.out) (I9.out.ab DA.out)).mono ?_
              rintro e wB ⟨rfl, hb⟩
              have DB := Lib.hid (below_tr DA.out hb DA.out.size)
              have CB := Lib.hid (CA.out.ab hb)
              have BB := Lib.hid (below_tr B9.out DB.out B9.out.size)
              clear hb ac1 ac2 ac3 ac4 ac5 ac6
              have ac1 : wB.cell? ⟨(x.add (i * 9)).block, (x.add (i * 9)).off + 1, none⟩ = some (.int .u32 (q.l.ten : Int)) := (KC.out wB BB.out).2 0 _ rfl
              have ac2 : wB.cell? ⟨(x.add (i * 9)).block, (x.add (i * 9)).off + 2, none⟩ = some (.int .u8 (q.l.k : Int)) := (KC.out wB BB.out).2 1 _ rfl
              have ac3 : wB.cell? ⟨(x.add (i * 9)).block, (x.add (i * 9)).off + 3, none⟩ = some (.int .u8 (q.l.lv : Int)) := (KC.out wB BB.out).2 2 _ rfl
              have ac4 : wB.cell? ⟨(x.add (i * 9)).block, (x.add (i * 9)).off + 4, none⟩ = some (.int .u32 (q.l.pg : Int)) := (KC.out wB BB.out).2 3 _ rfl
              have ac5 : wB.cell? ⟨(x.add (i * 9)).block, (x.add (i * 9)).off + 5, none⟩ = some (.int .u64 (q.l.cm : Int)) := (KC.out wB BB.out).2 4 _ rfl
              have ac6 : wB.cell? ⟨(x.add (i * 9)).block, (x.add (i * 9)).off + 6, none⟩ = some (.int .u16 (q.l.gn : Int)) := (KC.out wB BB.out).2 5 _ rfl
              go_wp2_with fail
              refine (HK.out _ (L9.out.ab DB.out) (I9.out.ab DB.out)).mono ?_
              rintro e wD ⟨rfl, hb⟩
              have DD := Lib.hid (below_tr DB.out hb DB.out.size)
              have CD := Lib.hid (CB.out.ab hb)
              have BD := Lib.hid (below_tr B9.out DD.out B9.out.size)
              have LD := Lib.hid (L9.out.ab DD.out)
              have ID := Lib.hid (I9.out.ab DD.out)
              have RD := Lib.hid (R9.out.ab DD.out)
              clear hb HH HK HC DA DB CA CB BA BB hwr L9 R9 I9 B9 ac1 ac2 ac3 ac4 ac5 ac6
              generalize w9.heap.size = bx at *
              go_wp2_with fail
              refine wp_wide3 [⟨153, IsR (.pointer (some ⟨g, 0, none⟩)), [], false⟩, ⟨154, IsR (.agg #[.int .u32 (((q.l.ten + 1) % 4294967296 : Nat) : Int), .int .u8 (q.l.k : Int), .int .u8 (q.l.lv : Int), .int .u32 (q.l.pg : Int), .int .u64 (q.l.cm : Int), .int .u16 (q.l.gn : Int)]), [], false⟩, ⟨155, IsR (.slice A8 R.length c8), [], false⟩, ⟨156, IsR (.bool bq), [0, 1, 2], false⟩, ⟨157, IsR ((.slice Av S'.length cv)), [], false⟩, ⟨158, IsR (.agg #[.int .u32 (((q.l.ten + 1) % 4294967296 : Nat) : Int), .int .u8 (q.l.k : Int), .int .u8 (q.l.lv : Int), .int .u32 (q.l.pg : Int), .int .u64 (q.l.cm : Int), .int .u16 (q.l.gn : Int)]), [], false⟩, ⟨159, IsR (.slice A8 R.length c8), [], false⟩, ⟨160, IsR (.bool bq), [4, 5, 6], false⟩] (by kernel_rfl) (by kernel_rfl) rfl rfl rfl ⟨?_, ?_, ?_, ?_, ?_, ?_, ?_, ?_, trivial⟩ ?_
              · refine ⟨rfl, IsR.mono _, fun a W hA hb hd => takes_plain rfl (yields_value _ ?_ rfl)⟩
                have h3 : a.tmps[3]?.getD undef = .pointer (some ⟨g, 0, none⟩) := (eval_get a 3).trans ((hA.eval (by simp)).trans rfl)
                go_simp
              · refine ⟨rfl, IsR.mono _, fun a W hA hb hd => takes_plain rfl (yields_value _ ?_ rfl)⟩
                have h12 : a.tmps[12]?.getD undef = .pointer (some ⟨bx, 0, none⟩) := (eval_get a 12).trans ((hA.eval (by simp)).trans rfl)
                have hl := CD.out.ab hb
                have l0 := hl.cell (k := 0) rfl
                have l1 := hl.cell (k := 1) rfl
                have l2 := hl.cell (k := 2) rfl
                have l3 := hl.cell (k := 3) rfl
                have l4 := hl.cell (k := 4) rfl
                have l5 := hl.cell (k := 5) rfl
                go_simp
              · refine ⟨rfl, IsR.mono _, fun a W hA hb hd => takes_plain rfl (yields_value _ ?_ rfl)⟩
                have h8 : a.tmps[8]?.getD undef = .slice A8 R.length c8 := (eval_get a 8).trans ((hA.eval (by simp)).trans rfl)
                go_simp
              · refine ⟨rfl, IsR.mono _, fun a W hA hb hd => takes_plain rfl ?_⟩
                have h153 : a.tmps[153]?.getD undef = .pointer (some ⟨g, 0, none⟩) := (eval_get a 153).trans (hd 0 (by simp) _ rfl)
                have h154 : a.tmps[154]?.getD undef = .agg #[.int .u32 (((q.l.ten + 1) % 4294967296 : Nat) : Int), .int .u8 (q.l.k : Int), .int .u8 (q.l.lv : Int), .int .u32 (q.l.pg : Int), .int .u64 (q.l.cm : Int), .int .u16 (q.l.gn : Int)] := (eval_get a 154).trans (hd 1 (by simp) _ rfl)
                have h155 : a.tmps[155]?.getD undef = .slice A8 R.length c8 := (eval_get a 155).trans (hd 2 (by simp) _ rfl)
                refine yields_call 22 #[.pointer (some ⟨g, 0, none⟩), .agg #[.int .u32 (((q.l.ten + 1) % 4294967296 : Nat) : Int), .int .u8 (q.l.k : Int), .int .u8 (q.l.lv : Int), .int .u32 (q.l.pg : Int), .int .u64 (q.l.cm : Int), .int .u16 (q.l.gn : Int)], .slice A8 R.length c8] (by go_simp) ((HO.out W (LD.out.ab hb) (ID.out.ab hb)).mono ?_)
                rintro e W1 ⟨rfl, h1⟩
                exact ⟨_, rfl, rfl, h1⟩
              · refine ⟨rfl, IsR.mono _, fun a W hA hb hd => takes_plain rfl (yields_value _ ?_ rfl)⟩
                have h4 : a.tmps[4]?.getD undef = (.slice Av S'.length cv) := (eval_get a 4).trans ((hA.eval (by simp)).trans rfl)
                go_simp
              · refine ⟨rfl, IsR.mono _, fun a W hA hb hd => takes_plain rfl (yields_value _ ?_ rfl)⟩
                have h12 : a.tmps[12]?.getD undef = .pointer (some ⟨bx, 0, none⟩) := (eval_get a 12).trans ((hA.eval (by simp)).trans rfl)
                have hl := CD.out.ab hb
                have l0 := hl.cell (k := 0) rfl
                have l1 := hl.cell (k := 1) rfl
                have l2 := hl.cell (k := 2) rfl
                have l3 := hl.cell (k := 3) rfl
                have l4 := hl.cell (k := 4) rfl
                have l5 := hl.cell (k := 5) rfl
                go_simp
              · refine ⟨rfl, IsR.mono _, fun a W hA hb hd => takes_plain rfl (yields_value _ ?_ rfl)⟩
                have h8 : a.tmps[8]?.getD undef = .slice A8 R.length c8 := (eval_get a 8).trans ((hA.eval (by simp)).trans rfl)
                go_simp
              · refine ⟨rfl, IsR.mono _, fun a W hA hb hd => takes_plain rfl ?_⟩
                have h157 : a.tmps[157]?.getD undef = (.slice Av S'.length cv) := (eval_get a 157).trans (hd 4 (by simp) _ rfl)
                have h158 : a.tmps[158]?.getD undef = .agg #[.int .u32 (((q.l.ten + 1) % 4294967296 : Nat) : Int), .int .u8 (q.l.k : Int), .int .u8 (q.l.lv : Int), .int .u32 (q.l.pg : Int), .int .u64 (q.l.cm : Int), .int .u16 (q.l.gn : Int)] := (eval_get a 158).trans (hd 5 (by simp) _ rfl)
                have h159 : a.tmps[159]?.getD undef = .slice A8 R.length c8 := (eval_get a 159).trans (hd 6 (by simp) _ rfl)
                refine yields_call 23 #[(.slice Av S'.length cv), .agg #[.int .u32 (((q.l.ten + 1) % 4294967296 : Nat) : Int), .int .u8 (q.l.k : Int), .int .u8 (q.l.lv : Int), .int .u32 (q.l.pg : Int), .int .u64 (q.l.cm : Int), .int .u16 (q.l.gn : Int)], .slice A8 R.length c8] (by go_simp) ((HP.out W (RD.out.ab hb) (ID.out.ab hb)).mono ?_)
                rintro e W1 ⟨rfl, h1⟩
                exact ⟨_, rfl, rfl, h1⟩
              intro vs wE hR hF hb
              have e153 : vs 153 = .pointer (some ⟨g, 0, none⟩) := hR 0 _ rfl
              have e154 : vs 154 = .agg #[.int .u32 (((q.l.ten + 1) % 4294967296 : Nat) : Int), .int .u8 (q.l.k : Int), .int .u8 (q.l.lv : Int), .int .u32 (q.l.pg : Int), .int .u64 (q.l.cm : Int), .int .u16 (q.l.gn : Int)] := hR 1 _ rfl
              have e155 : vs 155 = .slice A8 R.length c8 := hR 2 _ rfl
              have e156 : vs 156 = .bool bq := hR 3 _ rfl
              have e157 : vs 157 = (.slice Av S'.length cv) := hR 4 _ rfl
              have e158 : vs 158 = .agg #[.int .u32 (((q.l.ten + 1) % 4294967296 : Nat) : Int), .int .u8 (q.l.k : Int), .int .u8 (q.l.lv : Int), .int .u32 (q.l.pg : Int), .int .u64 (q.l.cm : Int), .int .u16 (q.l.gn : Int)] := hR 5 _ rfl
              have e159 : vs 159 = .slice A8 R.length c8 := hR 6 _ rfl
              have e160 : vs 160 = .bool bq := hR 7 _ rfl
              simp only [List.map_cons, List.map_nil, List.foldl_cons, List.foldl_nil, List.length_cons, List.length_nil, List.drop_succ_cons, List.drop_zero, Act.put, List.setIfInBounds_toArray, List.set_cons_zero, List.set_cons_succ, e153, e154, e155, e156, e157, e158, e159, e160]
              have DE := Lib.hid (below_tr BD.out hb BD.out.size)
              have LE := Lib.hid (LD.out.ab hb)
              have RE := Lib.hid (RD.out.ab hb)
              clear hR hF hb HO HP LD RD ID CD BD DD e153 e154 e155 e156 e157 e158 e159 e160
              have hbq : (bq != bq) = false := by cases bq <;> rfl
              go_wp2_with fail
              go_roundw
              case rel => first
                | exact ⟨i + 1, S', HLT.out, by go_num, SL9.out, RE.out, LE.out, D9.out, DE.out⟩
                | ((repeat apply Exists.intro); exact ⟨⟨i + 1, S', HLT.out, by go_num, SL9.out, RE.out, LE.out, D9.out, DE.out⟩, rfl⟩)
              case measure => simp [intOf]; have := HLT.out; omega
    · obtain rfl : i = n := by omega
      have RL := Lib.hid hrl
      have LG := Lib.hid hlg
      have DN := Lib.hid hdn
      have HB := Lib.hid hb
      have SL : Hid (S.length ≤ 1000) := Lib.hid (by have := N60.out; omega)
      clear hlt hrl hlg hdn hb hsl hi
      go_wp2_with fail
      refine (twice_any w.heap.size g (S.map (·.s)) wr LG.out (by rw [List.length_map]; exact SL.out) (fun s hs => (DN.out s hs).1)).mono ?_
      rintro e w2 ⟨v2, rfl, hv2, hb2⟩
      have D2 := Lib.hid hb2
      have V2 := Lib.hid hv2
      clear hb2 hv2
      go_wp2_with fail
      refine (rtwice_any w.heap.size _ S w2 (RL.out.ab D2.out) SL.out).mono ?_
      rintro e w3 ⟨v3, rfl, hv3, hb3⟩
      have D3 := Lib.hid (below_tr D2.out hb3 D2.out.size)
      have W2 := Lib.hid (V2.out.ab hb3)
      have W3 := Lib.hid hv3
      have L3 := Lib.hid (LG.out.ab D3.out)
      have B3 := Lib.hid (below_tr HB.out D3.out HB.out.size)
      clear hb3 hv3 D2 D3 V2 RL LG HB
      have AN := any_no DN.out (b := zeros 256) (by intro r e; cases e)
      have HH := Lib.hid fun (A : Option Addr) (c : Nat) W h1 (h2 : IsB W A 256 c (zeros 256)) => has_any w.heap.size g (S.map (·.s)) A 256 c (zeros 256) W h1 (by rw [List.length_map]; exact SL.out) h2 (fun s hs => (DN.out s hs).1.2.2.2)
      rw [AN] at HH
      clear AN DN
      have TB : (twR [] (S.map (·.s))).length ≤ 1000 := Nat.le_trans (twR_len _ _) (by rw [List.length_map]; exact SL.out)
      generalize twR [] (S.map (·.s)) = TL at *
      obtain ⟨A2, c2, rfl⟩ := row_shape W2.out
      obtain ⟨A3, c3, rfl⟩ := row_shape W3.out
      obtain ⟨m, hm⟩ : ∃ m, TL.length = m := ⟨_, rfl⟩
      have HM := Lib.hid hm
      rw [hm] at W2 W3 TB ⊢
      clear hm
      have hmb : (m : Int) ≤ 1000 := by omega
      clear TB
      generalize w2.heap.size = s2 at *
      generalize wr.heap.size = s3 at *
      clear w2
      generalize w3 = wo at *
      go_wp2_with fail
      go_loopw [174] (fun z wx => ∃ j : Nat, j ≤ m ∧ z = .int .i64 (j : Int) ∧ Below wo.heap.size wo wx) (fun z _ => m - (intOf z).toNat)
      case atStart => exact ⟨0, Nat.zero_le _, rfl, Below.refl _ _⟩
      case round =>
        obtain ⟨j, hj, rfl, hbx⟩ := hrel
        by_cases hjl : j < m
        · obtain ⟨l, hl⟩ : ∃ l, TL[j]? = some l := ⟨_, List.getElem?_eq_getElem (by rw [HM.out]; exact hjl)⟩
          obtain ⟨g2, cp2, he2, hl2, hc2⟩ := LsB.at (show LsB wo s3 (.slice A2 TL.length c2) TL from HM.out.symm ▸ W2.out) hl
          obtain ⟨g3, cp3, he3, hl3, hc3⟩ := LsB.at (show LsB wo s2 (.slice A3 TL.length c3) TL from HM.out.symm ▸ W3.out) hl
          injection he2 with he2 he2b he2c
          injection he3 with he3 he3b he3c
          subst he2 he3 he2c he3c
          clear he2b he3b
          have hjlt : (j : Int) < (m : Int) := by omega
          have HJ := Lib.hid hjl
          have HX := Lib.hid hbx
          have k2 : ∀ (i : Nat) (u : Value), (lab l)[i]? = some u → wr.cell? ⟨g2, j * 6 + i, none⟩ = some u := fun i u hu => (World.cell?_of_block (hbx.block _ hl2)).trans (hc2 i u hu)
          have k3 : ∀ (i : Nat) (u : Value), (lab l)[i]? = some u → wr.cell? ⟨g3, j * 6 + i, none⟩ = some u := fun i u hu => (World.cell?_of_block (hbx.block _ hl3)).trans (hc3 i u hu)
          have x20 : wr.cell? ⟨g2, j * 6 + 0, none⟩ = some (.int .u32 (l.ten : Int)) := k2 0 _ rfl
          have x21 : wr.cell? ⟨g2, j * 6 + 1, none⟩ = some (.int .u8 (l.k : Int)) := k2 1 _ rfl
          have x22 : wr.cell? ⟨g2, j * 6 + 2, none⟩ = some (.int .u8 (l.lv : Int)) := k2 2 _ rfl
          have x23 : wr.cell? ⟨g2, j * 6 + 3, none⟩ = some (.int .u32 (l.pg : Int)) := k2 3 _ rfl
          have x24 : wr.cell? ⟨g2, j * 6 + 4, none⟩ = some (.int .u64 (l.cm : Int)) := k2 4 _ rfl
          have x25 : wr.cell? ⟨g2, j * 6 + 5, none⟩ = some (.int .u16 (l.gn : Int)) := k2 5 _ rfl
          have x30 : wr.cell? ⟨g3, j * 6 + 0, none⟩ = some (.int .u32 (l.ten : Int)) := k3 0 _ rfl
          have x31 : wr.cell? ⟨g3, j * 6 + 1, none⟩ = some (.int .u8 (l.k : Int)) := k3 1 _ rfl
          have x32 : wr.cell? ⟨g3, j * 6 + 2, none⟩ = some (.int .u8 (l.lv : Int)) := k3 2 _ rfl
          have x33 : wr.cell? ⟨g3, j * 6 + 3, none⟩ = some (.int .u32 (l.pg : Int)) := k3 3 _ rfl
          have x34 : wr.cell? ⟨g3, j * 6 + 4, none⟩ = some (.int .u64 (l.cm : Int)) := k3 4 _ rfl
          have x35 : wr.cell? ⟨g3, j * 6 + 5, none⟩ = some (.int .u16 (l.gn : Int)) := k3 5 _ rfl
          rw [Nat.add_zero] at x20 x30
          have hql := fun W => eq_lab l l W
          have hd : decide (l = l) = true := decide_eq_true rfl
          rw [hd] at hql
          clear hj hjl hbx hl hl2 hl3 hc2 hc3 k2 k3 hd
          go_wp2_with fail
          go_quiet (fail)
          go_wp2_with fail
          go_roundw
          case rel => exact ⟨j + 1, HJ.out, by go_num, below_dn HX.out _⟩
          case measure => simp [intOf]; have := HJ.out; omega
        · obtain rfl : j = m := by omega
          have HX := Lib.hid (below_tr B3.out hbx B3.out.size)
          have LX := Lib.hid (L3.out.ab hbx)
          clear hj hjl hbx W2 W3 L3 B3
          go_wp2_with (first
            | (refine wpList_makeB rfl 256 (by decide) rfl ?_
               intro w5 hk5 hb5
               have I5 := Lib.hid (isB_whole hk5 (byt_zeros 256) (zeros_len 256) (by decide))
               have L5 := Lib.hid (LX.out.ab hb5)
               have B5 := Lib.hid (below_tr HX.out hb5 HX.out.size)
               clear hk5 hb5)
            | (refine (HH.out _ _ _ L5.out I5.out).mono ?_
               rintro e w6 ⟨rfl, hb⟩
               have B6 := Lib.hid (below_tr B5.out hb B5.out.size)
               clear hb)
            | (refine (known10_any _).mono ?_
               rintro e w7 ⟨rfl, hb⟩
               have B7 := Lib.hid (below_tr B6.out hb B6.out.size)
               clear hb))
          go_ret
          exact ⟨rfl, B7.out⟩
set_option maxRecDepth 100000 in
theorem slogs_walk (v : Value) (w : World) (hk : ∃ base, Value.okWide Try.prog w .any base 22 v) {H : Type} {enc : TypeId × Value → H} {d : DataW H} {p : List MemPlace} (hd : DataW.Trod enc Try.prog w 0 (fun _ => true) true 22 v d p) (hp : ∀ x ∈ p, x.block < w.heap.size) :
    Calls Try.prog 3 #[v] w fun e w' => e = .returned (.bool true) ∧ Below w.heap.size w w' := by
  obtain ⟨base, hk⟩ := hk
  obtain ⟨A, n, c, qs, rfl, hqs⟩ := open_acts hk hd hp
  exact slogs_any A n c qs w hqs
end Go.Proofs.Ytmeakfocppooiaa
