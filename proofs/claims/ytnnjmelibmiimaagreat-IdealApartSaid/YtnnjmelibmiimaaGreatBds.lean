/-
  THE KEYS OF A MAP, AS AN ITERATOR; collected, and sorted (map[uint32]*donjon/ideal.tenant,uint32,*donjon/ideal.tenant): walks.
-/
import Derived.Test.YtnnjmelibmiimaaGreatBdd
import Derived.Test.YtnnjmelibmiimaaGreatBdf
import Derived.Test.YtnnjmelibmiimaaGreatBdj
import Derived.Sort.LoopGhostIn
import Derived.Sort.MapsRangeIn
import Derived.Maps.OwnIn
import Derived.Shelf.Abstract
import Derived.Test.YtnnjmelibmiimaaGreatBdq
namespace Go.Proofs.YtnnjmelibmiimaaGreat.U32
open Go.RowKit Go.Sort Go.Shelf
set_option linter.unusedVariables false
attribute [local go_sem] Oper.semAt_some

set_option maxRecDepth 100000 in
set_option maxHeartbeats 1000000 in
theorem keys1_stops (F : Fence) (n : Nat) (hF : F.fn 108) (hro : F.round = none) (hn : 1 ≤ n) (Bm b : Nat) (vs : List (Nat × Value)) (w : World) (n₀ : Nat) (hBm : Bm < w.heap.size) (hm : w.cell? ⟨Bm, 0, none⟩ = some (.map (some b))) (h : MapB u32V u32Ok w b vs) :
    SeqX F n Tryz.prog 108 #[.pointer (some ⟨Bm, 0, none⟩)] (fun x : Nat => #[.int .u32 (x : Int)]) none n₀ (fun xs => xs.Perm (vs.map (·.1))) (fun _ => True) vs.length w := by
  intro l J Jx W hW hJ hY h0
  have hc := (hW.cell (p := ⟨Bm, 0, none⟩) hBm).trans hm
  have HM := Lib.hid (h.ab hW)
  have ND := Lib.hid (h.nodup u32_K)
  have H0 := Lib.hid h0
  have HJ := Lib.hid hJ
  have HY := Lib.hid hY
  clear h hm hW h0 hJ hY
  refine callsIn_of_wp Tryz.func108 rfl hF ?_ hro
  simp only [Tryz.ntmps108, List.size_toArray, List.length_cons, List.length_nil, Nat.reduceAdd, Nat.reduceSub, Array.replicate_succ, Array.replicate_zero, List.push_toArray, List.append_toArray, List.nil_append, List.cons_append]
  gi_wp2_with (first
    | (gi_at_range
       refine wpListIn_mapRange rfl (.tmp 4) rfl Tryz.underlying62 rfl HM.out ?_
       intro w1 r1 b1 s1
       have R1 := Lib.hid r1
       have J1 := Lib.hid (HJ.out [] W w1 none H0.out (grown_of b1 none) (fun r e => by cases e))
       clear r1 b1 s1)
    | gi_in)
  gi_loopg [3] (vs.length) (fun k _ wr => ∃ d, vs.length - d.length ≤ k ∧ RngB u32V u32Ok wr b W.heap.size vs d ∧ J (d.map (·.1)) wr)
  case atStart => exact ⟨[], by simp, R1.out, J1.out⟩
  case round =>
    obtain ⟨d, hk, hr, hj⟩ := hrel
    have HK := Lib.hid hk
    have HR := Lib.hid hr
    have JJ := Lib.hid hj
    clear hk hr hj
    rcases HR.out.next u32_K 0 with ⟨hall, hrun⟩ | ⟨p, w2, hp, hd, hrun, hr2, hg2, hs2, hent, hbel⟩
    · have PM : Hid ((d.map (·.1)).Perm (vs.map (·.1))) := Lib.hid (by
        obtain ⟨_, _, _, _, _, _, _, _, _, _, _, _, _, _, hsub, hnd⟩ := HR.out
        refine (List.perm_ext_iff_of_nodup hnd ND.out).2 fun x => ?_
        simp only [List.mem_map]
        constructor
        · rintro ⟨q, h1, h2⟩; exact ⟨q, hsub q h1, h2⟩
        · rintro ⟨q, h1, h2⟩; exact ⟨q, hall q h1, h2⟩)
      clear hall
      gi_wp2
      go_end0
      exact ⟨⟨_, rfl⟩, .inl ⟨_, PM.out, JJ.out⟩⟩
    · have R2 := Lib.hid hr2
      have HM : Hid (d.length < vs.length) := Lib.hid (by have := hr2.len_le; simp at this; omega)
      have hj2 : J (d.map (·.1)) w2 := HJ.out _ _ _ _ JJ.out hg2 (fun r e => by cases e; exact .inr ⟨Nat.le_refl _, HR.out.walk⟩)
      obtain ⟨px, pv⟩ := p
      obtain ⟨fn, tmps, assign, body, hy, hR⟩ := HY.out (d.map (·.1)) px w2 hj2 (by rw [List.length_map]; exact HM.out)
      have HRR := Lib.hid hR
      simp only [u32V] at hent hrun
      clear hp hd hr2 hg2 hs2 hj2 hR hbel
      gi_wp2
      refine HRR.out.mono ?_
      rintro e W3 (⟨rfl, hJ3, hk3⟩ | ⟨rfl, hJx3⟩)
      · have J3 := Lib.hid hJ3
        have R3 := Lib.hid (R2.out.walks hk3.1)
        clear hJ3 hk3
        gi_wp2
        gi_roundg (vs.length - (d.length + 1))
        case measure => have := HM.out; have := HK.out; omega
        case rel => exact ⟨d ++ [(px, pv)], by simp, R3.out, by rw [List.map_append]; exact J3.out⟩
      · gi_wp2
        refine bodyPost_ret (results_none rfl _ _ _) rfl ?_
        exact ⟨⟨_, rfl⟩, .inr ⟨_, trivial, hJx3⟩⟩
set_option maxRecDepth 100000 in
theorem keys_any (mo : Option Nat) (w : World) : Calls Tryz.prog 75 #[.map mo] w fun e w' => e = .returned (.func (.func 108) #[] #[.pointer (some ⟨w.heap.size, 0, none⟩)]) ∧ w.alloc (.cells #[.map mo] 62) = w' := by
  go_enter Tryz.func75, Tryz.ntmps75
  go_wp2_with fail
  go_ret
  exact ⟨rfl, rfl⟩
theorem wpListIn_appN {F : Fence} {nF : Nat} {rest : List Oper} {ops : Array Oper} {o : Oper} {a : Act} {w : World} {Q : Exit → Act → World → Prop} (hgd : o.guard = none) (s x : Operand)
    (ho : o.op = .call { callee := .builtin .append, args := #[s, x], argTypes := #[38, 38] })
    {B G : Nat} {v : Value} {ls : List Nat} (hown : NsB w B v ls) (hs : a.eval s = v) (n : Nat) (hx : a.eval x = .slice (some ⟨G, 0, none⟩) 1 1) (hG : CbB w G 22 #[.int .u32 (n : Int)]) (hl : ls.length ≤ 100000) (hB : B ≤ w.heap.size)
    (h : ∀ v' w', NsB w' B v' (ls ++ [n]) → w.grownBy w' v.ownBlock → wpListIn F nF Tryz.prog ops Q rest (a.put o.dst v') w') : wpListIn F nF Tryz.prog ops Q (o :: rest) a w := by
  obtain ⟨i0, hi0, hz0, hz1, hz2⟩ := info_parts infoN
  obtain ⟨v1, W1, hrun, r1, r2, _⟩ := run_append_own (P := Tryz.prog) w B 38 o.type 22 i0 _ 1 4 Tryz.underlying38 hi0 hz0 hz1 hz2 rfl (by decide) v ls.length (nvs ls) hown ⟨G, 0, none⟩ 1 1 [.int .u32 (n : Int)] rfl (row_at hG) (by simp [Value.oneCell']) (by simp only [maxLen]; omega) (by omega) hB
  refine wpListIn_plain hgd fun K hK => ?_
  unfold Oper.wpIn
  refine ⟨by simp [Oper.about, ho, resolve, Target.leads, Sem.run_pure], ?_⟩
  rw [Oper.semAt_plain F _ _ (by rw [ho]; intro c hc'; cases hc')]
  simp only [execOp, ho, resolve, invoke, builtin, Sem.run_bind, Sem.run_pure, Result.andThen_ok, List.map_toArray, List.map_cons, List.map_nil, hs, hx, hrun]
  refine hK _ _ (h v1 W1 ?_ r2)
  unfold NsB nvs
  rw [List.map_append, List.length_append, List.length_singleton]
  exact r1
/-- between two rounds -/
def ApI (w : World) (pre : List Nat) (W : World) : Prop := (∃ v, Boxed W w.heap.size 38 v ∧ NsB W w.heap.size v pre) ∧ Below w.heap.size w W
theorem ApI.turn {w : World} {B : Nat} (hB : w.heap.size ≤ B) {s : List Nat} {A C : World} {row : Option Nat} (h : ApI w s A) (hg : A.grownBy C row) (hr : ∀ r, row = some r → B ≤ r ∧ ∃ o : Obj, A.heap[r]? = some o ∧ o.isCells = false) : ApI w s C := by
  obtain ⟨⟨v, hv, hn⟩, hb⟩ := h
  refine ⟨⟨v, hv.kept hg fun e => ?_, hn.kept hg ?_⟩, hb.grown hg hb.size (fun k e => Nat.le_trans hB (hr k e).1)⟩
  · obtain ⟨_, o, ho, hc⟩ := hr _ e.symm
    rw [show A.heap[w.heap.size]? = _ from hv] at ho
    cases ho
    cases hc
  · rcases hn.2 with ⟨rfl, _⟩ | ⟨g, cap, cur, rfl, _, hh, _⟩
    · exact .inl rfl
    · refine .inr fun e => ?_
      obtain ⟨_, o, ho, hc⟩ := hr g (by rw [← e]; rfl)
      rw [hh] at ho
      cases ho
      cases hc
theorem SeqX.later {α : Type} {F : Fence} {n : Nat} {P : Program} {g : Nat} {lb : Array Value} {encs : α → Array Value} {hb : Option Nat} {n₀ : Nat} {S Sp : List α → Prop} {N : Nat} {w w' : World} (h : SeqX F n P g lb encs hb n₀ S Sp N w) (hl : Below w.heap.size w w') : SeqX F n P g lb encs hb n₀ S Sp N w' :=
  fun l J Jx W hW hJ hY h0 => h l J Jx W (hl.trans (hW.mono hl.size)) hJ hY h0
set_option maxRecDepth 100000 in
set_option maxHeartbeats 2000000 in
theorem appendSeq_in (F : Fence) (n : Nat) (hF : F.fn 126) (hro : F.round = none) (hn : 2 ≤ n) (g : Nat) (lb : Array Value) (hFg : F.fn g) (eg : ∀ args w, (callFunc g args).run Tryz.prog w = .ok (.enter g args) w)
    (S Sp : List Nat → Prop) (N : Nat) (hN : N ≤ 100000) (w : World) (hseq : SeqX F (n - 1) Tryz.prog g lb (fun x : Nat => #[.int .u32 (x : Int)]) none w.heap.size S Sp N w) :
    CallsIn F n Tryz.prog 126 #[.slice none 0 0, .func (.func g) #[] lb] w fun e w' => ∃ (v : Value) (xs : List Nat), e = .returned v ∧ S xs ∧ NsB w' w.heap.size v xs ∧ Below w.heap.size w w' := by
  have h1 : 1 ≤ n := by omega
  refine callsIn_of_wp_marks Tryz.func126 rfl hF ?_ hro
  simp only [Tryz.ntmps126, List.size_toArray, List.length_cons, List.length_nil, Nat.reduceAdd, Nat.reduceSub, Array.replicate_succ, Array.replicate_zero, List.push_toArray, List.append_toArray, List.nil_append, List.cons_append]
  gi_wp2
  have hw1 : Below w.heap.size w (w.alloc (.cells #[.slice none 0 0] 38)) := (Below.refl _ w).alloc (Nat.le_refl _) _
  refine range_any hro h1 (gf := g) (lb := lb) rfl hFg eg (hb := none) (n₀ := w.heap.size) hw1.size (fun r e => by cases e) (SeqX.later hseq hw1) (fun _ => rfl) (ApI w) (fun _ _ _ => False)
    (fun s A C row hi hg hr => hi.turn hw1.size hg fun r e => by
      rcases hr r e with h | h
      · cases h
      · exact h)
    (fun _ _ _ _ _ h _ _ => h) ⟨⟨_, Boxed.new _ _ _, NsB.nil _ _⟩, hw1⟩
    (fun x => { tmps := #[.slice none 0 0, .func (.func g) #[] lb, .pointer (some ⟨w.heap.size, 0, none⟩), undef, .slice none 0 0, .int .u32 (x : Int), .func (.func g) #[] lb, .int .u32 (x : Int), undef, undef, undef, undef, undef], defers := [] }) ?assign ?body ?done ?stop
  case assign =>
    intro l x W K hK
    gi_wp2
    exact hK
  case body =>
    rintro l pre x W ⟨⟨v, hv, hns⟩, hb⟩ hlt
    have hc := hv.cell
    have hcb : CbB (W.alloc (.cells #[.int .u32 (x : Int)] 22)) W.heap.size 22 #[.int .u32 (x : Int)] := CbB.new _ _ _
    have hle : w.heap.size ≤ W.heap.size := hb.size
    have ha : Below W.heap.size W (W.alloc (.cells #[.int .u32 (x : Int)] 22)) := (Below.refl _ _).alloc (Nat.le_refl _) _
    have NA := Lib.hid (hns.ab ha)
    have HV := Lib.hid hv
    have HN := Lib.hid hns
    have HB := Lib.hid hb
    have HL := Lib.hid hlt
    have CB := Lib.hid hcb
    have HLE := Lib.hid hle
    clear hv hns hb hlt hcb hle ha
    gi_wp2_with (first
      | (gi_at_builtin
         refine wpListIn_appN rfl (.tmp 8) (.tmp 10) rfl (B := w.heap.size) NA.out rfl x rfl CB.out (by have := HL.out; omega) (by have := HLE.out; simp; omega) ?_
         intro v1 w1 n1 g1
         obtain ⟨hv1, hv2, hr2, hk2, hb2⟩ := HV.out.appended (by decide) HN.out HB.out.size (Nat.le_refl _) n1 g1
         obtain ⟨A1, c1, he1⟩ := row_shape n1
         rw [List.length_append, List.length_singleton] at he1
         subst he1
         have hc1 := hv1.cell
         have hf1 := hv1.frozen
         have V2 := Lib.hid hv2
         have R2 := Lib.hid hr2
         have K2 := Lib.hid hk2
         have B2 := Lib.hid hb2
         clear n1 g1 hv1 hv2 hr2 hk2 hb2))
    exact ⟨K2.out.from _, ⟨K2.out.walks, B2.out⟩, ⟨_, V2.out, R2.out⟩, HB.out.trans B2.out⟩
  case done =>
    rintro D xs W hD hS ⟨⟨v, hv, hns⟩, hb⟩ hK
    have hc := hv.cell
    have HV := Lib.hid hv
    have HN := Lib.hid hns
    have HB := Lib.hid hb
    have HS := Lib.hid hS
    have HD := Lib.hid hD
    have HKK := Lib.hid hK
    clear hv hns hb hS hD hK
    gi_wp2
    refine ⟨by simp, .inl ⟨_, _, rfl, run_takeDeferred HKK.out, ?_⟩⟩
    have HT := ApI.turn (w := w) (B := w.heap.size) (Nat.le_refl _) (s := xs) ⟨⟨v, HV.out, HN.out⟩, HB.out⟩ (grownBy_putObj' W D (.deferred none)) (fun r e => by
      cases e
      exact ⟨Nat.le_trans hw1.size HD.out, _, HKK.out, rfl⟩)
    obtain ⟨⟨v', hv', hn'⟩, hb'⟩ := HT
    obtain rfl : v' = v := by
      have h3 : (W.putObj D (.deferred none)).heap[w.heap.size]? = W.heap[w.heap.size]? := World.putObj_heap_other (by have := HD.out; simp at this; omega)
      have h4 : W.heap[w.heap.size]? = some (.cells #[v'] 38 (0, 0)) := h3.symm.trans hv'
      rw [show W.heap[w.heap.size]? = _ from HV.out] at h4
      injection h4 with h4
      injection h4 with h4 _
      simpa using h4.symm
    exact ⟨_, results_tmp rfl _ _ _, v', xs, rfl, HS.out, hn', hb'⟩
  case stop =>
    rintro D c pre W _ _ h _
    exact h.elim
set_option maxRecDepth 100000 in
theorem collect_any (g : Nat) (lb : Array Value) (eg : ∀ args w, (callFunc g args).run Tryz.prog w = .ok (.enter g args) w) (S Sp : List Nat → Prop) (N : Nat) (hN : N ≤ 100000) (w : World)
    (hseq : SeqX Fence.wide 5 Tryz.prog g lb (fun x : Nat => #[.int .u32 (x : Int)]) none w.heap.size S Sp N w) :
    Calls Tryz.prog 106 #[.func (.func g) #[] lb] w fun e w' => ∃ (v : Value) (xs : List Nat), e = .returned v ∧ S xs ∧ NsB w' w.heap.size v xs ∧ Below w.heap.size w w' := by
  have HC := Lib.hid (callsIn_wide.1 (appendSeq_in Fence.wide 6 trivial rfl (by decide) g lb trivial eg S Sp N hN w hseq))
  clear hseq eg
  go_enter Tryz.func106, Tryz.ntmps106
  go_wp2_with fail
  refine HC.out.mono ?_
  rintro e w1 ⟨v, xs, rfl, hS, hns, hb⟩
  obtain ⟨A1, c1, rfl⟩ := row_shape hns
  have HS := Lib.hid hS
  have HN := Lib.hid hns
  have HB := Lib.hid hb
  clear HC hS hns hb
  generalize xs.length = k at *
  go_wp2_with fail
  go_ret
  exact ⟨_, xs, rfl, HS.out, HN.out, HB.out⟩
set_option maxRecDepth 100000 in
theorem sorted_any (g : Nat) (lb : Array Value) (eg : ∀ args w, (callFunc g args).run Tryz.prog w = .ok (.enter g args) w) (S Sp : List Nat → Prop) (N : Nat) (hN : N ≤ 100000) (hS : ∀ xs, S xs → xs.length ≤ 100000) (w : World)
    (hseq : SeqX Fence.wide 5 Tryz.prog g lb (fun x : Nat => #[.int .u32 (x : Int)]) none w.heap.size S Sp N w) :
    Calls Tryz.prog 74 #[.func (.func g) #[] lb] w fun e w' => ∃ (v : Value) (xs : List Nat), e = .returned v ∧ S xs ∧ NsB w' w.heap.size v (srt xs) ∧ Below w.heap.size w w' := by
  have HC := Lib.hid (collect_any g lb eg S Sp N hN w hseq)
  have HL := Lib.hid hS
  clear hseq eg hS
  go_enter Tryz.func74, Tryz.ntmps74
  go_wp2_with fail
  refine HC.out.mono ?_
  rintro e w1 ⟨v, xs, rfl, hS, hns, hb⟩
  have HW := Lib.hid (sort_own w.heap.size v xs w1 hns (HL.out xs hS))
  have HS := Lib.hid hS
  have HN := Lib.hid hns
  have HB := Lib.hid hb
  obtain ⟨A1, c1, hv⟩ := row_shape hns
  have HV := Lib.hid hv
  clear HC hS hns hb hv
  go_wp2_with fail
  refine HW.out.mono ?_
  rintro e w2 ⟨rfl, hn2, hg2⟩
  have N2 := Lib.hid hn2
  have B2 := Lib.hid (below_grownO HB.out hg2 (own_ge9 HN.out) HB.out.size)
  clear HW hn2 hg2
  go_wp2_with fail
  go_ret
  exact ⟨_, xs, rfl, HS.out, N2.out, B2.out⟩
end Go.Proofs.YtnnjmelibmiimaaGreat.U32
namespace Go.Proofs.YtnnjmelibmiimaaGreat
open Go.RowKit
set_option linter.unusedVariables false
set_option linter.unusedSimpArgs false

def lstA (l : List Nat) : AnsP := ⟨0, 0, 0, [], [], 0, l⟩
theorem U32.srt_perm {a b : List Nat} (h : a.Perm b) : U32.srt a = U32.srt b := by
  have tr : ∀ a b c : Nat, decide (a ≤ b) = true → decide (b ≤ c) = true → decide (a ≤ c) = true := fun a b c h1 h2 => by simp at h1 h2 ⊢; omega
  have tot : ∀ a b : Nat, (decide (a ≤ b) || decide (b ≤ a)) = true := fun a b => by simp; omega
  exact List.Perm.eq_of_pairwise (le := fun a b => decide (a ≤ b) = true) (fun a b _ _ h1 h2 => by simp at h1 h2; omega) (List.pairwise_mergeSort tr tot a) (List.pairwise_mergeSort tr tot b) (((List.mergeSort_perm a _).trans h).trans (List.mergeSort_perm b _).symm)

section
variable {w : World} {O : Tg} {s blocks m : Nat} {T : List TnP} {bs : List (Nat × TnP)} {c : CallP}
set_option maxRecDepth 100000 in
set_option maxHeartbeats 2000000 in
theorem id_tenants (h : IdM w O s blocks T m bs) (hT : T.length ≤ 100000) :
    Calls Tryz.prog 45 #[.pointer (some ⟨s, 0, none⟩), .agg c.cs] w (DoR s blocks w O (lstA (U32.srt (T.map (·.n)))) T) := by
  have ha : Below w.heap.size w ((w.alloc (.cells #[.int .i64 c.kind, .int .u32 (c.ten : Int), .slice c.sec.A c.sec.n c.sec.c, .int .i64 c.quota, .int .i64 c.n, .int .u64 (c.hd : Int), .int .u64 (c.oth : Int), .int .u64 (c.sn : Int), .int .u8 (c.rt : Int), .slice c.oA c.oN c.oC, .slice c.key.A c.key.n c.key.c, .slice c.frm.A c.frm.n c.frm.c, .slice c.upto.A c.upto.n c.upto.c, .bool c.back] 36)).alloc (.cells #[.int .i64 0, .int .u64 0, .int .u64 0, .slice none 0 0, .slice none 0 0, .int .i64 0, .slice none 0 0] 40)) := ((Below.refl _ _).alloc (Nat.le_refl _) _).alloc (by simp) _
  have hcb : CbB ((w.alloc (.cells #[.int .i64 c.kind, .int .u32 (c.ten : Int), .slice c.sec.A c.sec.n c.sec.c, .int .i64 c.quota, .int .i64 c.n, .int .u64 (c.hd : Int), .int .u64 (c.oth : Int), .int .u64 (c.sn : Int), .int .u8 (c.rt : Int), .slice c.oA c.oN c.oC, .slice c.key.A c.key.n c.key.c, .slice c.frm.A c.frm.n c.frm.c, .slice c.upto.A c.upto.n c.upto.c, .bool c.back] 36)).alloc (.cells #[.int .i64 0, .int .u64 0, .int .u64 0, .slice none 0 0, .slice none 0 0, .int .i64 0, .slice none 0 0] 40)) w.heap.size 36 c.cs := (CbB.new w _ _).ab ((Below.refl _ _).alloc (Nat.le_refl _) _)
  have hqb : CbB ((w.alloc (.cells #[.int .i64 c.kind, .int .u32 (c.ten : Int), .slice c.sec.A c.sec.n c.sec.c, .int .i64 c.quota, .int .i64 c.n, .int .u64 (c.hd : Int), .int .u64 (c.oth : Int), .int .u64 (c.sn : Int), .int .u8 (c.rt : Int), .slice c.oA c.oN c.oC, .slice c.key.A c.key.n c.key.c, .slice c.frm.A c.frm.n c.frm.c, .slice c.upto.A c.upto.n c.upto.c, .bool c.back] 36)).alloc (.cells #[.int .i64 0, .int .u64 0, .int .u64 0, .slice none 0 0, .slice none 0 0, .int .i64 0, .slice none 0 0] 40)) (w.heap.size + 1) 40 (ansE 0) := CbB.newI (by simp)
  unfold CallP.cs at hcb ⊢
  go_enter Tryz.func45, Tryz.ntmps45
  go_upto_region 1 with (fail)
  obtain ⟨w0, hw0⟩ : ∃ w0, ((w.alloc (.cells #[.int .i64 c.kind, .int .u32 (c.ten : Int), .slice c.sec.A c.sec.n c.sec.c, .int .i64 c.quota, .int .i64 c.n, .int .u64 (c.hd : Int), .int .u64 (c.oth : Int), .int .u64 (c.sn : Int), .int .u8 (c.rt : Int), .slice c.oA c.oN c.oC, .slice c.key.A c.key.n c.key.c, .slice c.frm.A c.frm.n c.frm.c, .slice c.upto.A c.upto.n c.upto.c, .bool c.back] 36)).alloc (.cells #[.int .i64 0, .int .u64 0, .int .u64 0, .slice none 0 0, .slice none 0 0, .int .i64 0, .slice none 0 0] 40)) = w0 := ⟨_, rfl⟩
  rw [hw0] at ha hcb hqb ⊢
  clear hw0
  have HA := Lib.hid ha
  have HQ := Lib.hid hqb
  have M0 := h.stp (Stp.cut ha (fun _ => False)) fun _ h => h
  have HM := Lib.hid M0
  have s1 := M0.box.cell (k := 1) rfl
  have PN : (bs.map fun x => x.2.n).Perm (T.map (·.n)) := by have := h.prm.map (·.n); rwa [List.map_map] at this
  have BL : bs.length = T.length := by have := h.prm.length_eq; rwa [List.length_map] at this
  have HK := Lib.hid fun W => U32.keys_any (some m) W
  have eg := enters_of Tryz.func108 (by kernel_rfl) rfl
  have ha1 : Below w0.heap.size w0 (w0.alloc (.cells #[.map (some m)] 62)) := (Below.refl _ _).alloc (Nat.le_refl _) _
  have hcell : (w0.alloc (.cells #[.map (some m)] 62)).cell? ⟨w0.heap.size, 0, none⟩ = some (.map (some m)) := (CbB.new w0 62 #[.map (some m)]).cell (k := 0) rfl
  have HS : Hid (Calls Tryz.prog 74 #[.func (.func 108) #[] #[.pointer (some ⟨w0.heap.size, 0, none⟩)]] (w0.alloc (.cells #[.map (some m)] 62)) fun e w' => ∃ v, e = .returned v ∧ U32.NsB w' w0.heap.size v (U32.srt (T.map (·.n))) ∧ Below w0.heap.size w0 w') := Lib.hid (by
    have hM := M0.map.ab ha1
    refine (U32.sorted_any _ _ eg (fun xs => xs.Perm ((bs.map fun x => (x.2.n, ptrV x.1)).map (·.1))) (fun _ => True) (bs.map fun x => (x.2.n, ptrV x.1)).length (by rw [List.length_map]; omega) (fun xs h => by rw [h.length_eq]; simp; omega) _ (U32.keys1_stops Fence.wide 5 trivial rfl (by decide) w0.heap.size m _ _ _ (by simp) hcell hM)).mono ?_
    rintro e w' ⟨v, xs, rfl, hS, hn, hb⟩
    rw [List.map_map] at hS
    rw [U32.srt_perm (hS.trans PN)] at hn
    exact ⟨v, rfl, row_low hn ha1.size, below_tr ha1 hb ha1.size⟩)
  clear h ha hqb hcb M0 eg ha1 hcell PN BL hT
  go_wp2_with fail
  refine (HK.out _).mono ?_
  rintro e w1 ⟨rfl, rfl⟩
  clear HK
  go_wp2_with fail
  refine HS.out.mono ?_
  rintro e w2 ⟨v, rfl, hn, hb⟩
  obtain ⟨LA, ln, lc, rfl⟩ := row_sl hn
  have HN := Lib.hid hn
  have Q1 := Lib.hid (HQ.out.ab hb)
  have M1 := Lib.hid (HM.out.stp (Stp.of hb (fun _ => False) fun _ _ => rfl) fun _ h => h)
  have S1 : Hid (Stp (fun τ => τ.1 = s) w O w2 (cutTg O w.heap.size)) := Lib.hid ((Stp.cut HA.out _).ab hb)
  have N0 : Hid (w.heap.size + 1 < w0.heap.size) := Lib.hid HQ.out.lt
  clear HS hn hb
  go_wp2_with (first
    | (with_reducible refine wpList_storeC (o := ⟨none, .store _ (.tmp 4) (.tmp 11), _, _, _, _⟩) ?_ 40 (.tmp 4) (.tmp 11) ?_ (w.heap.size + 1) ?_ (#[.int .i64 0, .int .u64 0, .int .u64 0, .slice none 0 0, .slice none 0 0, .int .i64 0, .slice LA ln lc]) ?_ (cs := ansE 0) (t := 40) Q1.out (szAn7 _ _ _ _ _ _ _) ?_ (by simp [Value.oneCell']) ?_
       · rfl
       · rfl
       · rfl
       · rfl
       · rfl
       intro wz hwz
       have QZ : Hid (CbB wz (w.heap.size + 1) 40 (#[.int .i64 0, .int .u64 0, .int .u64 0, .slice none 0 0, .slice none 0 0, .int .i64 0, .slice LA ln lc])) := Lib.hid (by rw [hwz]; exact CbB.row Q1.out _)
       have FZ : Hid (Fr w2 wz (fun k => k = (w.heap.size + 1))) := Lib.hid (by rw [hwz]; exact fr_rowX _ _ _)
       clear hwz))
  refine bodyPost_ret (ans_results Tryz.results45 _ _ (w.heap.size + 1) (#[.int .i64 0, .int .u64 0, .int .u64 0, .slice none 0 0, .slice none 0 0, .int .i64 0, .slice LA ln lc]) rfl QZ.out rfl) rfl ?_
  have hN := N0.out
  refine ⟨_, cutTg O w.heap.size, rfl, ⟨_, _, _, rfl, OwB.nil _ _, fun g hg => (by cases hg), ⟨[], World.ownsRow_nil _ _ _ _, fun g hg => (by cases hg), rfl, fun i p q hi => (by simp at hi)⟩, row_low (row_frX HN.out FZ.out hN) (by omega), fun g hg => cutTg_at (by have := own_ge9 HN.out g hg; omega)⟩, ⟨m, bs, M1.out.stp (Stp.box FZ.out (cutTg_at (Nat.le_succ _))) fun i e => by have := M1.out.pos; injection e with e; omega⟩, S1.out.fresh FZ.out (Nat.le_succ _)⟩
end
end Go.Proofs.YtnnjmelibmiimaaGreat
