/-
  THE KEYS OF A MAP, AS AN ITERATOR; collected, and sorted (map[uint64]donjon/caps.handle,uint64,donjon/caps.handle): walks.
-/
import Derived.Test.YtobjdhpdljiijaaRfA
import Derived.Test.YtobjdhpdljiijaaCaB
import Derived.Test.YtobjdhpdljiijaaNm64
import Derived.Sort.LoopGhostIn
import Derived.Sort.MapsRangeIn
import Derived.Maps.OwnIn
import Derived.Shelf.Abstract
namespace Go.Proofs.Ytobjdhpdljiijaa.U64
open Go.RowKit Go.Sort Go.Shelf
set_option linter.unusedVariables false
attribute [local go_sem] Oper.semAt_some

set_option maxRecDepth 100000 in
set_option maxHeartbeats 1000000 in
theorem keys1_stops (F : Fence) (n : Nat) (hF : F.fn 22) (hro : F.round = none) (hn : 1 ≤ n) (Bm b : Nat) (vs : List (Nat × Value)) (w : World) (n₀ : Nat) (hBm : Bm < w.heap.size) (hm : w.cell? ⟨Bm, 0, none⟩ = some (.map (some b))) (h : MapB u64V u64Ok w b vs) :
    SeqX F n Try.prog 22 #[.pointer (some ⟨Bm, 0, none⟩)] (fun x : Nat => #[.int .u64 (x : Int)]) none n₀ (fun xs => xs.Perm (vs.map (·.1))) (fun _ => True) vs.length w := by
  intro l J Jx W hW hJ hY h0
  have hc := (hW.cell (p := ⟨Bm, 0, none⟩) hBm).trans hm
  have HM := Lib.hid (h.ab hW)
  have ND := Lib.hid (h.nodup u64_K)
  have H0 := Lib.hid h0
  have HJ := Lib.hid hJ
  have HY := Lib.hid hY
  clear h hm hW h0 hJ hY
  refine callsIn_of_wp Try.func22 rfl hF ?_ hro
  simp only [Try.ntmps22, List.size_toArray, List.length_cons, List.length_nil, Nat.reduceAdd, Nat.reduceSub, Array.replicate_succ, Array.replicate_zero, List.push_toArray, List.append_toArray, List.nil_append, List.cons_append]
  gi_wp2_with (first
    | (gi_at_range
       refine wpListIn_mapRange rfl (.tmp 4) rfl Try.underlying43 rfl HM.out ?_
       intro w1 r1 b1 s1
       have R1 := Lib.hid r1
       have J1 := Lib.hid (HJ.out [] W w1 none H0.out (grown_of b1 none) (fun r e => by cases e))
       clear r1 b1 s1)
    | gi_in)
  gi_loopg [3] (vs.length) (fun k _ wr => ∃ d, vs.length - d.length ≤ k ∧ RngB u64V u64Ok wr b W.heap.size vs d ∧ J (d.map (·.1)) wr)
  case atStart => exact ⟨[], by simp, R1.out, J1.out⟩
  case round =>
    obtain ⟨d, hk, hr, hj⟩ := hrel
    have HK := Lib.hid hk
    have HR := Lib.hid hr
    have JJ := Lib.hid hj
    clear hk hr hj
    rcases HR.out.next u64_K 0 with ⟨hall, hrun⟩ | ⟨p, w2, hp, hd, hrun, hr2, hg2, hs2, hent, hbel⟩
    · have PM : Hid ((d.map (·.1)).Perm (vs.map (·.1))) := Lib.hid (by
        obtain ⟨_, _, _, _, _, _, _, _, _, _, _, _, _, _, hsub, hnd⟩ := HR.out
        refine (List.perm_ext_iff_of_nodup hnd ND.out).2 fun x => ?_
        simp only [List.mem_map]
        constructor
        · rintro ⟨q, h1, h2⟩; exact ⟨q, hsub q h1, h2⟩
        · rintro ⟨q, h1, h2⟩; exact ⟨q, hall q h1, h2⟩)
      clear hall
      gi_wp2
      go_end0
      exact ⟨⟨_, rfl⟩, .inl ⟨_, PM.out, JJ.out⟩⟩
    · have R2 := Lib.hid hr2
      have HM : Hid (d.length < vs.length) := Lib.hid (by have := hr2.len_le; simp at this; omega)
      have hj2 : J (d.map (·.1)) w2 := HJ.out _ _ _ _ JJ.out hg2 (fun r e => by cases e; exact .inr ⟨Nat.le_refl _, HR.out.walk⟩)
      obtain ⟨px, pv⟩ := p
      obtain ⟨fn, tmps, assign, body, hy, hR⟩ := HY.out (d.map (·.1)) px w2 hj2 (by rw [List.length_map]; exact HM.out)
      have HRR := Lib.hid hR
      simp only [u64V] at hent hrun
      clear hp hd hr2 hg2 hs2 hj2 hR hbel
      gi_wp2
      refine HRR.out.mono ?_
      rintro e W3 (⟨rfl, hJ3, hk3⟩ | ⟨rfl, hJx3⟩)
      · have J3 := Lib.hid hJ3
        have R3 := Lib.hid (R2.out.walks hk3.1)
        clear hJ3 hk3
        gi_wp2
        gi_roundg (vs.length - (d.length + 1))
        case measure => have := HM.out; have := HK.out; omega
        case rel => exact ⟨d ++ [(px, pv)], by simp, R3.out, by rw [List.map_append]; exact J3.out⟩
      · gi_wp2
        refine bodyPost_ret (results_none rfl _ _ _) rfl ?_
        exact ⟨⟨_, rfl⟩, .inr ⟨_, trivial, hJx3⟩⟩
set_option maxRecDepth 100000 in
theorem keys1_stops_nil (F : Fence) (n : Nat) (hF : F.fn 22) (hro : F.round = none) (Bm : Nat) (w : World) (n₀ : Nat) (hBm : Bm < w.heap.size) (hm : w.cell? ⟨Bm, 0, none⟩ = some (.map none)) :
    SeqX F n Try.prog 22 #[.pointer (some ⟨Bm, 0, none⟩)] (fun x : Nat => #[.int .u64 (x : Int)]) none n₀ (fun xs => xs = []) (fun _ => True) 0 w := by
  intro l J Jx W hW hJ hY h0
  have hc := (hW.cell (p := ⟨Bm, 0, none⟩) hBm).trans hm
  have HJ := Lib.hid (hJ [] W _ none h0 (World.grownBy_alloc W (.mapIter none 0 #[] 0) none) (fun r e => by cases e))
  clear hm hW h0 hJ hY
  have hrg := run_range_nilMap (P := Try.prog) W 43 28 _ Try.underlying43
  have hnx : ∀ ty, (Instr.next (.pointer (some ⟨W.heap.size, 0, none⟩)) false ty).run Try.prog (W.alloc (.mapIter none 0 #[] 0)) = _ := fun ty => run_next_nilMap _ ty 0 0 #[]
  refine callsIn_of_wp Try.func22 rfl hF ?_ hro
  simp only [Try.ntmps22, List.size_toArray, List.length_cons, List.length_nil, Nat.reduceAdd, Nat.reduceSub, Array.replicate_succ, Array.replicate_zero, List.push_toArray, List.append_toArray, List.nil_append, List.cons_append]
  gi_wp2
  refine wpIn_loop_rounds 1 ?_
  rw [roundsIn_succ]
  gi_wp2
  go_end0
  exact ⟨⟨_, rfl⟩, .inl ⟨[], rfl, HJ.out⟩⟩
set_option maxRecDepth 100000 in
theorem keys_any (mo : Option Nat) (w : World) : Calls Try.prog 15 #[.map mo] w fun e w' => e = .returned (.func (.func 22) #[] #[.pointer (some ⟨w.heap.size, 0, none⟩)]) ∧ w.alloc (.cells #[.map mo] 43) = w' := by
  go_enter Try.func15, Try.ntmps15
  go_wp2_with fail
  go_ret
  exact ⟨rfl, rfl⟩
theorem wpListIn_appN {F : Fence} {nF : Nat} {rest : List Oper} {ops : Array Oper} {o : Oper} {a : Act} {w : World} {Q : Exit → Act → World → Prop} (hgd : o.guard = none) (s x : Operand)
    (ho : o.op = .call { callee := .builtin .append, args := #[s, x], argTypes := #[26, 26] })
    {B G : Nat} {v : Value} {ls : List Nat} (hown : NsB w B v ls) (hs : a.eval s = v) (n : Nat) (hx : a.eval x = .slice (some ⟨G, 0, none⟩) 1 1) (hG : CbB w G 28 #[.int .u64 (n : Int)]) (hl : ls.length ≤ 100000) (hB : B ≤ w.heap.size)
    (h : ∀ v' w', NsB w' B v' (ls ++ [n]) → w.grownBy w' v.ownBlock → wpListIn F nF Try.prog ops Q rest (a.put o.dst v') w') : wpListIn F nF Try.prog ops Q (o :: rest) a w := by
  obtain ⟨i0, hi0, hz0, hz1, hz2⟩ := info_parts infoN
  obtain ⟨v1, W1, hrun, r1, r2, _⟩ := run_append_own (P := Try.prog) w B 26 o.type 28 i0 _ 1 8 Try.underlying26 hi0 hz0 hz1 hz2 rfl (by decide) v ls.length (nvs ls) hown ⟨G, 0, none⟩ 1 1 [.int .u64 (n : Int)] rfl (row_at hG) (by simp [Value.oneCell']) (by simp only [maxLen]; omega) (by omega) hB
  refine wpListIn_plain hgd fun K hK => ?_
  unfold Oper.wpIn
  refine ⟨by simp [Oper.about, ho, resolve, Target.leads, Sem.run_pure], ?_⟩
  rw [Oper.semAt_plain F _ _ (by rw [ho]; intro c hc'; cases hc')]
  simp only [execOp, ho, resolve, invoke, builtin, Sem.run_bind, Sem.run_pure, Result.andThen_ok, List.map_toArray, List.map_cons, List.map_nil, hs, hx, hrun]
  refine hK _ _ (h v1 W1 ?_ r2)
  unfold NsB nvs
  rw [List.map_append, List.length_append, List.length_singleton]
  exact r1
/-- between two rounds -/
def ApI (w : World) (pre : List Nat) (W : World) : Prop := (∃ v, Boxed W w.heap.size 26 v ∧ NsB W w.heap.size v pre) ∧ Below w.heap.size w W
theorem ApI.turn {w : World} {B : Nat} (hB : w.heap.size ≤ B) {s : List Nat} {A C : World} {row : Option Nat} (h : ApI w s A) (hg : A.grownBy C row) (hr : ∀ r, row = some r → B ≤ r ∧ ∃ o : Obj, A.heap[r]? = some o ∧ o.isCells = false) : ApI w s C := by
  obtain ⟨⟨v, hv, hn⟩, hb⟩ := h
  refine ⟨⟨v, hv.kept hg fun e => ?_, hn.kept hg ?_⟩, hb.grown hg hb.size (fun k e => Nat.le_trans hB (hr k e).1)⟩
  · obtain ⟨_, o, ho, hc⟩ := hr _ e.symm
    rw [show A.heap[w.heap.size]? = _ from hv] at ho
    cases ho
    cases hc
  · rcases hn.2 with ⟨rfl, _⟩ | ⟨g, cap, cur, rfl, _, hh, _⟩
    · exact .inl rfl
    · refine .inr fun e => ?_
      obtain ⟨_, o, ho, hc⟩ := hr g (by rw [← e]; rfl)
      rw [hh] at ho
      cases ho
      cases hc
theorem SeqX.later {α : Type} {F : Fence} {n : Nat} {P : Program} {g : Nat} {lb : Array Value} {encs : α → Array Value} {hb : Option Nat} {n₀ : Nat} {S Sp : List α → Prop} {N : Nat} {w w' : World} (h : SeqX F n P g lb encs hb n₀ S Sp N w) (hl : Below w.heap.size w w') : SeqX F n P g lb encs hb n₀ S Sp N w' :=
  fun l J Jx W hW hJ hY h0 => h l J Jx W (hl.trans (hW.mono hl.size)) hJ hY h0
set_option maxRecDepth 100000 in
set_option maxHeartbeats 2000000 in
theorem appendSeq_in (F : Fence) (n : Nat) (hF : F.fn 25) (hro : F.round = none) (hn : 2 ≤ n) (g : Nat) (lb : Array Value) (hFg : F.fn g) (eg : ∀ args w, (callFunc g args).run Try.prog w = .ok (.enter g args) w)
    (S Sp : List Nat → Prop) (N : Nat) (hN : N ≤ 100000) (w : World) (hseq : SeqX F (n - 1) Try.prog g lb (fun x : Nat => #[.int .u64 (x : Int)]) none w.heap.size S Sp N w) :
    CallsIn F n Try.prog 25 #[.slice none 0 0, .func (.func g) #[] lb] w fun e w' => ∃ (v : Value) (xs : List Nat), e = .returned v ∧ S xs ∧ NsB w' w.heap.size v xs ∧ Below w.heap.size w w' := by
  have h1 : 1 ≤ n := by omega
  refine callsIn_of_wp_marks Try.func25 rfl hF ?_ hro
  simp only [Try.ntmps25, List.size_toArray, List.length_cons, List.length_nil, Nat.reduceAdd, Nat.reduceSub, Array.replicate_succ, Array.replicate_zero, List.push_toArray, List.append_toArray, List.nil_append, List.cons_append]
  gi_wp2
  have hw1 : Below w.heap.size w (w.alloc (.cells #[.slice none 0 0] 26)) := (Below.refl _ w).alloc (Nat.le_refl _) _
  refine range_any hro h1 (gf := g) (lb := lb) rfl hFg eg (hb := none) (n₀ := w.heap.size) hw1.size (fun r e => by cases e) (SeqX.later hseq hw1) (fun _ => rfl) (ApI w) (fun _ _ _ => False)
    (fun s A C row hi hg hr => hi.turn hw1.size hg fun r e => by
      rcases hr r e with h | h
      · cases h
      · exact h)
    (fun _ _ _ _ _ h _ _ => h) ⟨⟨_, Boxed.new _ _ _, NsB.nil _ _⟩, hw1⟩
    (fun x => { tmps := #[.slice none 0 0, .func (.func g) #[] lb, .pointer (some ⟨w.heap.size, 0, none⟩), undef, .slice none 0 0, .int .u64 (x : Int), .func (.func g) #[] lb, .int .u64 (x : Int), undef, undef, undef, undef, undef], defers := [] }) ?assign ?body ?done ?stop
  case assign =>
    intro l x W K hK
    gi_wp2
    exact hK
  case body =>
    rintro l pre x W ⟨⟨v, hv, hns⟩, hb⟩ hlt
    have hc := hv.cell
    have hcb : CbB (W.alloc (.cells #[.int .u64 (x : Int)] 28)) W.heap.size 28 #[.int .u64 (x : Int)] := CbB.new _ _ _
    have hle : w.heap.size ≤ W.heap.size := hb.size
    have ha : Below W.heap.size W (W.alloc (.cells #[.int .u64 (x : Int)] 28)) := (Below.refl _ _).alloc (Nat.le_refl _) _
    have NA := Lib.hid (hns.ab ha)
    have HV := Lib.hid hv
    have HN := Lib.hid hns
    have HB := Lib.hid hb
    have HL := Lib.hid hlt
    have CB := Lib.hid hcb
    have HLE := Lib.hid hle
    clear hv hns hb hlt hcb hle ha
    gi_wp2_with (first
      | (gi_at_builtin
         refine wpListIn_appN rfl (.tmp 8) (.tmp 10) rfl (B := w.heap.size) NA.out rfl x rfl CB.out (by have := HL.out; omega) (by have := HLE.out; simp; omega) ?_
         intro v1 w1 n1 g1
         obtain ⟨hv1, hv2, hr2, hk2, hb2⟩ := HV.out.appended (by decide) HN.out HB.out.size (Nat.le_refl _) n1 g1
         obtain ⟨A1, c1, he1⟩ := row_shape n1
         rw [List.length_append, List.length_singleton] at he1
         subst he1
         have hc1 := hv1.cell
         have hf1 := hv1.frozen
         have V2 := Lib.hid hv2
         have R2 := Lib.hid hr2
         have K2 := Lib.hid hk2
         have B2 := Lib.hid hb2
         clear n1 g1 hv1 hv2 hr2 hk2 hb2))
    exact ⟨K2.out.from _, ⟨K2.out.walks, B2.out⟩, ⟨_, V2.out, R2.out⟩, HB.out.trans B2.out⟩
  case done =>
    rintro D xs W hD hS ⟨⟨v, hv, hns⟩, hb⟩ hK
    have hc := hv.cell
    have HV := Lib.hid hv
    have HN := Lib.hid hns
    have HB := Lib.hid hb
    have HS := Lib.hid hS
    have HD := Lib.hid hD
    have HKK := Lib.hid hK
    clear hv hns hb hS hD hK
    gi_wp2
    refine ⟨by simp, .inl ⟨_, _, rfl, run_takeDeferred HKK.out, ?_⟩⟩
    have HT := ApI.turn (w := w) (B := w.heap.size) (Nat.le_refl _) (s := xs) ⟨⟨v, HV.out, HN.out⟩, HB.out⟩ (grownBy_putObj' W D (.deferred none)) (fun r e => by
      cases e
      exact ⟨Nat.le_trans hw1.size HD.out, _, HKK.out, rfl⟩)
    obtain ⟨⟨v', hv', hn'⟩, hb'⟩ := HT
    obtain rfl : v' = v := by
      have h3 : (W.putObj D (.deferred none)).heap[w.heap.size]? = W.heap[w.heap.size]? := World.putObj_heap_other (by have := HD.out; simp at this; omega)
      have h4 : W.heap[w.heap.size]? = some (.cells #[v'] 26 (0, 0)) := h3.symm.trans hv'
      rw [show W.heap[w.heap.size]? = _ from HV.out] at h4
      injection h4 with h4
      injection h4 with h4 _
      simpa using h4.symm
    exact ⟨_, results_tmp rfl _ _ _, v', xs, rfl, HS.out, hn', hb'⟩
  case stop =>
    rintro D c pre W _ _ h _
    exact h.elim
set_option maxRecDepth 100000 in
theorem collect_any (g : Nat) (lb : Array Value) (eg : ∀ args w, (callFunc g args).run Try.prog w = .ok (.enter g args) w) (S Sp : List Nat → Prop) (N : Nat) (hN : N ≤ 100000) (w : World)
    (hseq : SeqX Fence.wide 5 Try.prog g lb (fun x : Nat => #[.int .u64 (x : Int)]) none w.heap.size S Sp N w) :
    Calls Try.prog 20 #[.func (.func g) #[] lb] w fun e w' => ∃ (v : Value) (xs : List Nat), e = .returned v ∧ S xs ∧ NsB w' w.heap.size v xs ∧ Below w.heap.size w w' := by
  have HC := Lib.hid (callsIn_wide.1 (appendSeq_in Fence.wide 6 trivial rfl (by decide) g lb trivial eg S Sp N hN w hseq))
  clear hseq eg
  go_enter Try.func20, Try.ntmps20
  go_wp2_with fail
  refine HC.out.mono ?_
  rintro e w1 ⟨v, xs, rfl, hS, hns, hb⟩
  obtain ⟨A1, c1, rfl⟩ := row_shape hns
  have HS := Lib.hid hS
  have HN := Lib.hid hns
  have HB := Lib.hid hb
  clear HC hS hns hb
  generalize xs.length = k at *
  go_wp2_with fail
  go_ret
  exact ⟨_, xs, rfl, HS.out, HN.out, HB.out⟩
set_option maxRecDepth 100000 in
theorem sorted_any (g : Nat) (lb : Array Value) (eg : ∀ args w, (callFunc g args).run Try.prog w = .ok (.enter g args) w) (S Sp : List Nat → Prop) (N : Nat) (hN : N ≤ 100000) (hS : ∀ xs, S xs → xs.length ≤ 100000) (w : World)
    (hseq : SeqX Fence.wide 5 Try.prog g lb (fun x : Nat => #[.int .u64 (x : Int)]) none w.heap.size S Sp N w) :
    Calls Try.prog 14 #[.func (.func g) #[] lb] w fun e w' => ∃ (v : Value) (xs : List Nat), e = .returned v ∧ S xs ∧ NsB w' w.heap.size v (srt xs) ∧ Below w.heap.size w w' := by
  have HC := Lib.hid (collect_any g lb eg S Sp N hN w hseq)
  have HL := Lib.hid hS
  clear hseq eg hS
  go_enter Try.func14, Try.ntmps14
  go_wp2_with fail
  refine HC.out.mono ?_
  rintro e w1 ⟨v, xs, rfl, hS, hns, hb⟩
  have HW := Lib.hid (sort_own w.heap.size v xs w1 hns (HL.out xs hS))
  have HS := Lib.hid hS
  have HN := Lib.hid hns
  have HB := Lib.hid hb
  obtain ⟨A1, c1, hv⟩ := row_shape hns
  have HV := Lib.hid hv
  clear HC hS hns hb hv
  go_wp2_with fail
  refine HW.out.mono ?_
  rintro e w2 ⟨rfl, hn2, hg2⟩
  have N2 := Lib.hid hn2
  have B2 := Lib.hid (below_grownO HB.out hg2 (own_ge9 HN.out) HB.out.size)
  clear HW hn2 hg2
  go_wp2_with fail
  go_ret
  exact ⟨_, xs, rfl, HS.out, N2.out, B2.out⟩
end Go.Proofs.Ytobjdhpdljiijaa.U64
