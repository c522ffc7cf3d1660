/-
  WALKS: the reference's words of a key.
-/
import Derived.Test.YtakgebbeknfplaaGreatCtC
import Derived.Test.YtakgebbeknfplaaGreatAeN
import Derived.Deep.DeepCutAuto
namespace Go.Proofs.YtakgebbeknfplaaGreat
open Go.RowKit
set_option linter.unusedVariables false

theorem take_at' {l : List Nat} {p : Nat} (h : p < l.length) : l.take (p + 1) = l.take p ++ [at' l p] := by
  rw [List.take_succ_eq_append_getElem h]
  simp [at', List.getElem?_eq_getElem h]
theorem at'_take {l : List Nat} {n i : Nat} (h : i < n) : at' (l.take n) i = at' l i := by
  simp [at', h]
theorem four_eq {l : List Nat} {a b c d : Nat} (h : l.length = 4) (h0 : at' l 0 = a) (h1 : at' l 1 = b) (h2 : at' l 2 = c) (h3 : at' l 3 = d) : l = [a, b, c, d] := by
  apply List.ext_getElem (by simp [h])
  intro i i1 i2
  have hi : i < 4 := by simpa using i2
  have e : l[i] = at' l i := by simp [at', List.getElem?_eq_getElem i1]
  rw [e]
  match i, hi with
  | 0, _ => exact h0
  | 1, _ => exact h1
  | 2, _ => exact h2
  | 3, _ => exact h3
theorem byt4 {a b c d : Nat} (h0 : a < 256) (h1 : b < 256) (h2 : c < 256) (h3 : d < 256) : Byt [a, b, c, d] := by
  intro x hx
  simp only [List.mem_cons, List.not_mem_nil, or_false] at hx
  rcases hx with rfl | rfl | rfl | rfl <;> assumption
theorem Byt.take {l : List Nat} (h : Byt l) (n : Nat) : Byt (l.take n) := fun x hx => h x (List.mem_of_mem_take hx)
theorem build1 (x : Operand) (ty : TypeId) (dst : Option Tmp) (pos : String) (af : Array Edge) (y : Nat) (a : Act) (w : World) (hx : a.eval x = .int .u8 (y : Int)) :
    (execOp a.eval ⟨dst, .buildSlice 22 1 #[(0, x)], ty, pos, af, none⟩).run Tryz.prog w = .ok (.value (.slice (some ⟨w.heap.size, 0, none⟩) 1 1)) (w.alloc (.cells #[.int .u8 (y : Int)] 5)) := by
  have h1 : (sizeOf 5).run Tryz.prog w = .ok 1 w := by kernel_rfl
  unfold execOp
  simp only [List.map_toArray, List.map_cons, List.map_nil, hx]
  simp [Instr.buildSlice, run_underlying Tryz.underlying22 w, h1, Instr.fill, Value.cells, go_sem]
/-- behind i words of the key's -/
structure WordsSt (B : Nat) (w0 w : World) (v : Value) (E : List Nat) (m : Nat) : Prop where
  own : OwB w B v (E.take m)
  below : Below B w0 w

set_option maxRecDepth 100000 in
set_option maxHeartbeats 4000000 in
theorem rwords4_any (l : List Nat) (A : Option Addr) (c : Nat) (w : World) (hin : IsB w A 16 c l) :
    Calls Tryz.prog 323 #[.slice A 16 c] w fun e w' => ∃ g cap, e = .returned (.slice (some ⟨g, 0, none⟩) 176 cap) ∧ w.heap.size ≤ g ∧ 176 ≤ cap ∧ cap ≤ 9223372036854775807 ∧ OwB w' w.heap.size (.slice (some ⟨g, 0, none⟩) 176 cap) (wordsAll 4 l) ∧ Below w.heap.size w w' := by
  have hE := wordsAll_exp (k := 4) (key := l) (by omega) (by rw [hin.len]) hin.2
  generalize wordsAll 4 l = E at hE
  have hlen : E.length = 176 := hE.len
  have hll : l.length = 16 := hin.len
  have hlE : l = E.take 16 := by
    apply List.ext_getElem (by rw [List.length_take, hlen, hll]; rfl)
    intro i h1 h2
    have := hE.own i (by omega)
    simp only [at', List.getElem?_eq_getElem h1, List.getElem?_eq_getElem (show i < E.length by omega), Option.getD_some] at this
    rw [List.getElem_take]
    exact this.symm
  obtain ⟨i0, hi0, hz0, hz1, hz2⟩ := info_parts infoU8
  have HE := Lib.hid hE
  have HIN := Lib.hid hin
  have HL := Lib.hid hlen
  have HLE := Lib.hid hlE
  have HLL := Lib.hid hll
  clear hE hin hlen hlE hll
  go_enter Tryz.func323, Tryz.ntmps323
  go_wp2_with fail
  refine (copy_any A 16 c l _ HIN.out (by omega)).mono ?_
  rintro e w1 ⟨rfl, hbk, hb1⟩
  have hw1 : WordsSt w.heap.size w w1 (.slice (some ⟨w.heap.size, 0, none⟩) 16 19) E (4 * 4) := ⟨OwB.ofBk hbk (Nat.le_refl _) (by rw [← HLE.out, HLL.out]) (by omega) (by rw [List.length_append, HLL.out, zeros_len]) (by omega) (by rw [List.take_append_of_le_length (by rw [HLL.out]; omega), List.take_of_length_le (by rw [HLL.out]; omega)]; exact HLE.out) (HE.out.byt.take _), hb1⟩
  have HW1 := Lib.hid hw1
  clear hbk hb1 hw1
  go_wp2_with fail
  go_loopw [4, 5] (fun v j wr => ∃ i : Nat, 4 ≤ i ∧ i ≤ 44 ∧ j = .int .i64 i ∧ WordsSt w.heap.size w wr v E (4 * i)) (fun _ j _ => 44 - (intOf j).toNat)
  case atStart => exact ⟨4, by omega, by omega, rfl, HW1.out⟩
  case round =>
    obtain ⟨i, hi1, hi2, rfl, ho⟩ := hrel
    clear HW1
    have htl : (E.take (4 * i)).length = 4 * i := by rw [List.length_take, HL.out]; omega
    obtain ⟨gw, cw, hv, hBg, hgl, hlc, hcm, hcells⟩ := ho.own.form (by omega)
    rw [htl] at hv hlc hcells
    by_cases hlt : i < 44
    · subst hv
      obtain ⟨wo, rfl⟩ : ∃ wo : World, wo = wr := ⟨_, rfl⟩
      obtain ⟨j, hj⟩ : ∃ j, i = j + 1 := ⟨i - 1, by omega⟩
      have hj1 : (i : Int) - 1 = (j : Int) := by omega
      have hjT : (j : Int) < 44 := by omega
      have hij : (j : Int) < (i : Int) := by omega
      have hiT : (i : Int) < 44 := by omega
      have hlti : decide ((i : Int) < 44) = true := by simpa using hiT
      have hi0' : (4 : Int) ≤ (i : Int) := by omega
      have hE4 : ∀ m, m < 4 * i → wo.cell? ⟨gw, m, none⟩ = some (.int .u8 (at' E m : Nat)) := fun m hm => by rw [hcells m hm, at'_take hm]
      have HE4 := Lib.hid hE4
      have HO := Lib.hid ho
      have HH := Lib.hid (Nat.le_refl wo.heap.size)
      generalize hT : (E.drop (4 * j)).take 4 = T
      have hTl : T.length = 4 := by rw [← hT]; simp [HL.out]; omega
      have hTa : ∀ p, p < 4 → at' T p = at' E (4 * j + p) := fun p hp => by rw [← hT]; simp [at', hp]
      have hTb : Byt T := by rw [← hT]; exact fun x hx => HE.out.byt x (List.mem_of_mem_drop (List.mem_of_mem_take hx))
      have HTL := Lib.hid hTl
      have HTA := Lib.hid hTa
      have HJ := Lib.hid hj
      clear hE4 hcells ho hT hTl hTa hj htl hlc
      go_wp2_with fail
      go_loopw [6, 7] (fun v q wx => ∃ p : Nat, p ≤ 4 ∧ q = .int .i64 p ∧ OwB wx wo.heap.size v (T.take p) ∧ Below wo.heap.size wo wx) (fun _ q _ => 4 - (intOf q).toNat)
      case atStart => exact ⟨0, by omega, rfl, by rw [List.take_zero]; exact OwB.nil _ _, Below.refl _ _⟩
      case round =>
        obtain ⟨p, hp, rfl, hown, hbx⟩ := hrel
        by_cases hlp : p < 4
        · have hpi : (p : Int) < 4 := by omega
          have hcl : wr.cell? ⟨gw, 4 * j + p, none⟩ = some (.int .u8 (at' T p : Nat)) := by
            rw [hbx.cell (p := ⟨gw, 4 * j + p, none⟩) hgl, HE4.out _ (by have := HJ.out; omega), HTA.out p hlp]
          have hy := hTb.at' p
          have htk := take_at' (l := T) (p := p) (by rw [HTL.out]; exact hlp)
          generalize at' T p = y at hcl hy htk
          have HTK := Lib.hid htk
          have HOW := Lib.hid hown
          have HBX := Lib.hid hbx
          have htl : (T.take p).length = p := by rw [List.length_take, HTL.out]; omega
          have HTP := Lib.hid htl
          have hwi : 4 * (j : Int) + (p : Int) < 4 * (i : Int) := by omega
          clear hown hbx htk htl
          go_wp2_with (refine wpList_appB _ rfl (.tmp 29) (.tmp 38) rfl Tryz.underlying22 hi0 hz0 hz1 hz2 rfl (HOW.out.alloc _) rfl (isB_one _ y hy) rfl (by rw [HTP.out]; omega) (by have := HBX.out.size; simp; omega) ?_; intro v1 w2 hown2 hb2 hg2 hat2; rw [← HTK.out] at hown2)
          have hb3 := (HBX.out.alloc HBX.out.size _).trans hb2
          have HO2 := Lib.hid hown2
          have HB3 := Lib.hid hb3
          clear hown2 hb2 hg2 hat2 hb3
          go_wp2_with fail
          go_roundw
          case rel => exact ⟨p + 1, by omega, by go_num, HO2.out, HB3.out⟩
          case measure => simp [intOf]; omega
        · obtain rfl : p = 4 := by omega
          rw [List.take_of_length_le (by rw [HTL.out]; omega)] at hown
          obtain ⟨gt, ct, hv, hHg, hgtl, hlct, hcmt, hct⟩ := hown.form (by rw [HTL.out]; omega)
          rw [HTL.out] at hv hlct hct
          subst hv
          have hx0 := HTA.out 0 (by omega)
          have hx1 := HTA.out 1 (by omega)
          have hx2 := HTA.out 2 (by omega)
          have hx3 := HTA.out 3 (by omega)
          have hb0 := hTb.at' 0
          have hb1 := hTb.at' 1
          have hb2 := hTb.at' 2
          have hb3 := hTb.at' 3
          have hc0 := hct 0 (by omega)
          have hc1 := hct 1 (by omega)
          have hc2 := hct 2 (by omega)
          have hc3 := hct 3 (by omega)
          have hnx : nx 4 E i = nx 4 E i := rfl
          conv at hnx => rhs; unfold nx
          rw [show 4 * (i - 1) = 4 * j + 0 from by have := HJ.out; omega, ← hx0, show 4 * j + 0 + 1 = 4 * j + 1 from rfl, ← hx1, show 4 * j + 0 + 2 = 4 * j + 2 from rfl, ← hx2, show 4 * j + 0 + 3 = 4 * j + 3 from rfl, ← hx3] at hnx
          have hTe : T = [at' T 0, at' T 1, at' T 2, at' T 3] := four_eq HTL.out rfl rfl rfl rfl
          clear hx0 hx1 hx2 hx3 hct
          generalize at' T 0 = t0 at *
          generalize at' T 1 = t1 at *
          generalize at' T 2 = t2 at *
          generalize at' T 3 = t3 at *
          have HOT := Lib.hid hown
          have HBX := Lib.hid hbx
          have hgti : gt < wr.heap.size := hgtl
          have HNX := Lib.hid hnx
          have HTE := Lib.hid hTe
          have HTB := Lib.hid hTb
          clear hown hbx hnx hTe hTb
          obtain ⟨s0, hs0⟩ : ∃ s, sbox t0 = s := ⟨_, rfl⟩
          obtain ⟨s1, hs1⟩ : ∃ s, sbox t1 = s := ⟨_, rfl⟩
          obtain ⟨s2, hs2⟩ : ∃ s, sbox t2 = s := ⟨_, rfl⟩
          obtain ⟨s3, hs3⟩ : ∃ s, sbox t3 = s := ⟨_, rfl⟩
          have hl0 := sbox_lt t0 hb0
          have hl1 := sbox_lt t1 hb1
          have hl2 := sbox_lt t2 hb2
          have hl3 := sbox_lt t3 hb3
          rw [hs0] at hl0
          rw [hs1] at hl1
          rw [hs2] at hl2
          rw [hs3] at hl3
          have hN := HNX.out
          rw [hs0, hs1, hs2, hs3] at hN
          have HN := Lib.hid hN
          have HS0 := Lib.hid hs0
          have HS1 := Lib.hid hs1
          have HS2 := Lib.hid hs2
          have HS3 := Lib.hid hs3
          clear hs0 hs1 hs2 hs3 hN HNX
          obtain ⟨r, hr⟩ : ∃ r, i % 4 = r := ⟨_, rfl⟩
          have hmod : (i : Int).tmod 4 = (r : Int) := by rw [Int.tmod_eq_emod_of_nonneg (by omega)]; omega
          have hmod2 : (i : Int) % 4 = (r : Int) := by omega
          have HR := Lib.hid hr
          clear hr
          go_upto_if 43 with (fail)
          rw [show ((4 : Nat) : Int) = 4 from rfl]
          clear hmod hmod2
          go_cut [6, 8, 9, 10] from 39 to 89 (fun v6 v8 v9 v10 wx => OwB wx wo.heap.size v6 (nx 4 E i) ∧ Below wo.heap.size wo wx)
          case first =>
            by_cases hr0 : r = 0
            · have hr0i : ((r : Int) == 0) = true := by rw [hr0]; rfl
              have HR0 := Lib.hid hr0
              rw [hr0i]
              clear hr0
              go_wp2_with fail
              go_loopw [8, 9] (fun v q wx => ∃ p : Nat, p ≤ 4 ∧ q = .int .i64 p ∧ OwB wx wo.heap.size v ([s1, s2, s3, s0].take p) ∧ OwB wx wo.heap.size (.slice (some ⟨gt, 0, none⟩) 4 ct) T ∧ ApartB v gt ∧ Below wo.heap.size wo wx) (fun _ q _ => 4 - (intOf q).toNat)
              case atStart => exact ⟨0, by omega, rfl, OwB.nil _ _, HOT.out, ApartB.nil _, HBX.out⟩
              case round =>
                obtain ⟨p, hp, rfl, hu, ht, hne, hbx⟩ := hrel
                by_cases hlp : p < 4
                · have hpi : (p : Int) < 4 := by omega
                  have htk := take_at' (l := [s1, s2, s3, s0]) (p := p) (by simpa using hlp)
                  have hm : ∃ m tm sm : Nat, (p + 1) % 4 = m ∧ at' T m = tm ∧ sbox tm = sm ∧ at' [s1, s2, s3, s0] p = sm ∧ tm < 256 ∧ sm < 256 ∧ m < 4 := by
                    rw [HTE.out]
                    match p, hlp with
                    | 0, _ => exact ⟨1, t1, s1, rfl, rfl, HS1.out, rfl, hb1, hl1, by omega⟩
                    | 1, _ => exact ⟨2, t2, s2, rfl, rfl, HS2.out, rfl, hb2, hl2, by omega⟩
                    | 2, _ => exact ⟨3, t3, s3, rfl, rfl, HS3.out, rfl, hb3, hl3, by omega⟩
                    | 3, _ => exact ⟨0, t0, s0, rfl, rfl, HS0.out, rfl, hb0, hl0, by omega⟩
                  obtain ⟨m, tm, sm, hm1, hm2, hm3, hm4, htm, hsm, hm5⟩ := hm
                  have hcl := ht.rw m (by rw [HTL.out]; exact hm5)
                  rw [hm2] at hcl
                  rw [hm4] at htk
                  have hmo : ((p : Int) + 1).tmod 4 = (m : Int) := by rw [Int.tmod_eq_emod_of_nonneg (by omega)]; omega
                  have hmo2 : ((p : Int) + 1) % 4 = (m : Int) := by omega
                  have hmi : (m : Int) < 4 := by omega
                  have HTK := Lib.hid htk
                  have HU := Lib.hid hu
                  have HT := Lib.hid ht
                  have HNE := Lib.hid hne
                  have HBX2 := Lib.hid hbx
                  have HM3 := Lib.hid hm3
                  have hul : (([s1, s2, s3, s0] : List Nat).take p).length = p := by rw [List.length_take]; simp; omega
                  have HUL := Lib.hid hul
                  generalize ([s1, s2, s3, s0] : List Nat).take p = U at HTK HU HUL
                  clear htk hu ht hne hbx hm1 hm2 hm3 hm4 hul
                  go_wp2_with (first
                    | (go_at_call 325; refine (rSub_any tm htm _).mono ?_; rintro e w' ⟨rfl, rfl⟩; rw [HM3.out])
                    | (refine wpList_appB _ rfl (.tmp 48) (.tmp 56) rfl Tryz.underlying22 hi0 hz0 hz1 hz2 rfl (HU.out.alloc _) rfl (isB_one _ sm hsm) rfl (by rw [HUL.out]; omega) (by have := HBX2.out.size; simp; omega) ?_; intro v1 w2 hown2 hb2 hg2 hat2))
                  have ha : ApartB v1 gt := HNE.out.next hat2 (by have := (HT.out.lt gt rfl).2; simp; omega)
                  have ht2 : OwB w2 wo.heap.size (.slice (some ⟨gt, 0, none⟩) 4 ct) T := (HT.out.alloc _).keptA hg2 HNE.out
                  have hb4 : Below wo.heap.size wo w2 := (HBX2.out.alloc HBX2.out.size _).trans hb2
                  rw [← HTK.out] at hown2
                  have H1 := Lib.hid hown2
                  have H2 := Lib.hid ha
                  have H3 := Lib.hid ht2
                  have H4 := Lib.hid hb4
                  clear hown2 ha ht2 hb4 hb2 hg2 hat2
                  go_roundw
                  case rel => exact ⟨p + 1, by omega, by go_num, H1.out, H3.out, H2.out, H4.out⟩
                  case measure => simp [intOf]; omega
                · obtain rfl : p = 4 := by omega
                  rw [List.take_of_length_le (by simp)] at hu
                  obtain ⟨gu, cu, hv, hHu, hgul, hluc, hcmu, hcu⟩ := hu.form (by simp)
                  simp only [List.length_cons, List.length_nil, Nat.zero_add, Nat.reduceAdd] at hv hluc
                  subst hv
                  have hc0 := hcu 0 (by simp)
                  have hf0 := hu.free rfl 0
                  change wr.cell? ⟨gu, 0, none⟩ = some (.int .u8 ((s1 : Nat) : Int)) at hc0
                  obtain ⟨q, hq⟩ : ∃ q, i = 4 * (q + 1) := ⟨i / 4 - 1, by have := HR.out; have := HR0.out; omega⟩
                  have hq0 : IntKind.i64.wrap ((i : Int) / 4) = (q : Int) + 1 := by rw [IntWalk.i64_in _ (by omega)]; omega
                  have hq1 : IntKind.i64.wrap (q : Int) = (q : Int) := by rw [IntWalk.i64_in _ (by omega)]
                  have hq2 : IntKind.u32.wrap (q : Int) = (q : Int) := wrap_u32 _ (by omega) (by omega)
                  have HQ := Lib.hid hq
                  have hq15 : q < 16 := by omega
                  clear hq hcu
                  obtain ⟨x, hx⟩ : ∃ x, gpow 2 q = x := ⟨_, rfl⟩
                  have hxb := gpow_lt q hq15
                  rw [hx] at hxb
                  have hcall : ∀ W : World, Calls Tryz.prog 345 #[.int .u8 2, .int .u32 (q : Int)] W fun e w' => e = .returned (.int .u8 (x : Int)) ∧ w' = W := fun W => by
                    rw [← hx]
                    exact same_of (rPow_any q hq15 W)
                  have hxo := bits_xor_u8 s1 x hl1 hxb
                  have hyb := xor_lt hl1 hxb
                  have hnn : nx 4 E i = [s1 ^^^ x, s2, s3, s0] := by rw [HN.out, if_pos (HR.out.trans HR0.out), ← hx, show i / 4 - 1 = q from by have := HQ.out; omega]
                  obtain ⟨y, hy⟩ : ∃ y, s1 ^^^ x = y := ⟨_, rfl⟩
                  rw [hy] at hxo hyb hnn
                  have hst := hu.drew.store (k := 0) (x := y) rfl hyb
                  have HC := Lib.hid hcall
                  have HNN := Lib.hid hnn
                  have HST := Lib.hid hst
                  have HBX2 := Lib.hid hbx
                  clear hu ht hne hbx hx hcall hnn hst hy
                  go_wp2_with fail
                  refine wp_still_tail 12 (by kernel_rfl) (by kernel_rfl) ?_
                  simp only [List.take_succ_cons, List.take_zero, List.drop_succ_cons, List.drop_zero]
                  repeat still_step
                  refine wpStill_step (fun K hK => ?_)
                  go_simp
                  refine ⟨_, HC.out _, hK _ ?_⟩
                  clear hK K
                  repeat still_step
                  refine wpStill_nil ?_
                  clear hq0 hq1 hq2
                  go_wp2_with fail
                  go_meet
                  case rel => exact ⟨by rw [HNN.out]; exact HST.out, HBX2.out.drew.setCell hHu _⟩
            · have hr0i : ((r : Int) == 0) = false := by rw [beq_eq_false_iff_ne]; omega
              have HR0 := Lib.hid hr0
              rw [hr0i]
              clear hr0
              go_wp2_with fail
              go_meet
              case rel => exact ⟨by rw [HN.out, if_neg (by have := HR.out; have := HR0.out; omega), if_neg (by omega), ← HTE.out]; exact HOT.out, HBX.out⟩
          case rest =>
            obtain ⟨hN6, hbx⟩ := hcut
            have hNl : (nx 4 E i).length = 4 := nx_len _ _ _
            have hNb : Byt (nx 4 E i) := nx_byt HE.out.byt (by omega) hlt
            have HNEXT := Lib.hid (HE.out.next i (by omega) hlt)
            generalize nx 4 E i = N at hN6 hNl hNb HNEXT
            obtain ⟨g6, c6, hv, hHg6, hg6l, hc64, hc6m, hc6⟩ := hN6.form (by omega)
            rw [hNl] at hv hc64 hc6
            subst hv
            have HNL := Lib.hid hNl
            have HN6 := Lib.hid hN6
            have HBX3 := Lib.hid hbx
            clear hN6 hbx hNl hc6 HOT HN HS0 HS1 HS2 HS3 HBX
            have hst := (⟨HO.out.own.below HBX3.out (fun g hg => by injection hg with hg; subst hg; exact hgl), HO.out.below.trans (HBX3.out.mono HO.out.below.size)⟩ : WordsSt w.heap.size w _ _ E (4 * i))
            have hap : ApartB (.slice (some ⟨gw, 0, none⟩) (4 * i) cw) g6 := fun b hb => by injection hb with hb; subst hb; show gw ≠ g6; omega
            have HST := Lib.hid hst
            have HAP := Lib.hid hap
            clear hst hap
            go_wp2_with fail
            go_loopw [4, 11] (fun v q wx => ∃ p : Nat, p ≤ 4 ∧ q = .int .i64 p ∧ WordsSt w.heap.size w wx v E (4 * i + p) ∧ OwB wx wo.heap.size (.slice (some ⟨g6, 0, none⟩) 4 c6) N ∧ ApartB v g6) (fun _ q _ => 4 - (intOf q).toNat)
            case atStart => exact ⟨0, by omega, rfl, HST.out, HN6.out, HAP.out⟩
            case round =>
              obtain ⟨p, hp, rfl, ho, hn, hap⟩ := hrel
              clear HST HN6 HAP
              have htl : (E.take (4 * i + p)).length = 4 * i + p := by rw [List.length_take, HL.out]; omega
              by_cases hlp : p < 4
              · have hpi : (p : Int) < 4 := by omega
                obtain ⟨g4, c4, hv, hB4, hg4l, hl4c, hc4m, hc4⟩ := ho.own.form (by omega)
                rw [htl] at hv hl4c hc4
                subst hv
                obtain ⟨d, hd⟩ : ∃ d, i = d + 4 := ⟨i - 4, by omega⟩
                have hd1 : IntKind.i64.wrap ((i : Int) - 4) = (d : Int) := by rw [IntWalk.i64_in _ (by omega)]; omega
                have hd2 : IntKind.i64.wrap (4 * (d : Int)) = 4 * (d : Int) := IntWalk.i64_in _ (by omega)
                have hd3 : IntKind.i64.wrap (4 * (d : Int) + (p : Int)) = 4 * (d : Int) + (p : Int) := IntWalk.i64_in _ (by omega)
                have hd4 : (0 : Int) ≤ 4 * (d : Int) + (p : Int) := by omega
                have hd5 : (4 * (d : Int) + (p : Int)).toNat = 4 * d + p := by omega
                have hd6 : 4 * (d : Int) + (p : Int) < ((4 * i + p : Nat) : Int) := by omega
                have hd7 : 4 * (d : Int) + (p : Int) < 4 * (i : Int) + (p : Int) := by omega
                have hcx := hn.rw p (by rw [HNL.out]; exact hlp)
                have hcy := hc4 (4 * d + p) (by omega)
                rw [at'_take (by omega)] at hcy
                have hxb := hNb.at' p
                have hyb := HE.out.byt.at' (4 * d + p)
                have hnext := HNEXT.out p hlp
                rw [show i - 4 = d from by omega] at hnext
                have htk := take_at' (l := E) (p := 4 * i + p) (by rw [HL.out]; omega)
                rw [hnext] at htk
                clear hnext
                generalize at' N p = zx at hcx hxb htk
                generalize at' E (4 * d + p) = zy at hcy hyb htk
                have hxo := bits_xor_u8 zx zy hxb hyb
                have hxy := xor_lt hxb hyb
                generalize zx ^^^ zy = z at hxo hxy htk
                have HTK := Lib.hid htk
                have HO := Lib.hid ho
                have HN6 := Lib.hid hn
                have HAP := Lib.hid hap
                have HTL := Lib.hid htl
                have hg64 : g6 ≠ g4 := fun e => hap g4 rfl e.symm
                have hkA : ∀ w', KeepA wr (.slice (some ⟨g4, 0, none⟩) (4 * i + p) c4) (E.take (4 * i + p)).length w' → w'.cell? ⟨g6, p, none⟩ = some (.int .u8 (zx : Int)) := fun w' h => h _ _ hcx (fun g hg e => by injection hg with hg; exact absurd (e.trans hg.symm) hg64)
                have hkB : ∀ w', KeepA wr (.slice (some ⟨g4, 0, none⟩) (4 * i + p) c4) (E.take (4 * i + p)).length w' → w'.cell? ⟨g4, 4 * d + p, none⟩ = some (.int .u8 (zy : Int)) := fun w' h => h _ _ hcy (fun g hg e => ⟨rfl, by rw [HTL.out]; show 4 * d + p < 4 * i + p; omega⟩)
                have HKA := Lib.hid hkA
                have HKB := Lib.hid hkB
                clear htk ho hn hap htl hd hc4 hkA hkB
                go_wp2_with fail
                refine wp_take_append wr 15 (.tmp 94) (.tmp 108) (t := 22) (d1 := 109) (d2 := 110) (d3 := 4) rfl (by kernel_rfl) (by kernel_rfl) (by kernel_rfl) (fun _ _ _ d _ h => by cases d <;> exact h) rfl rfl rfl rfl rfl rfl rfl rfl rfl rfl rfl rfl (by kernel_rfl) (by kernel_rfl) (by kernel_rfl) (by kernel_rfl) Tryz.underlying22 hi0 hz0 hz1 hz2 rfl _ _ HO.out.own (by rw [HTL.out]; omega) HO.out.below.size z hxy (fun a w' hx => build1 (.tmp 108) _ _ _ _ z a w' hx) ?_
                simp only [List.take_succ_cons, List.take_zero]
                refine takesB_step (v := ?av0) rfl ?ah0 ?ak0
                case ah0 => (intro w' hw'; have hka := HKA.out w' hw'; have hkb := HKB.out w' hw'; go_simp; rfl)
                refine takesB_step (v := ?av1) rfl ?ah1 ?ak1
                case ah1 => (intro w' hw'; have hka := HKA.out w' hw'; have hkb := HKB.out w' hw'; go_simp; rfl)
                refine takesB_step (v := ?av2) rfl ?ah2 ?ak2
                case ah2 => (intro w' hw'; have hka := HKA.out w' hw'; have hkb := HKB.out w' hw'; go_simp; rfl)
                refine takesB_step (v := ?av3) rfl ?ah3 ?ak3
                case ah3 => (intro w' hw'; have hka := HKA.out w' hw'; have hkb := HKB.out w' hw'; go_simp; rfl)
                refine takesB_step (v := ?av4) rfl ?ah4 ?ak4
                case ah4 => (intro w' hw'; have hka := HKA.out w' hw'; have hkb := HKB.out w' hw'; go_simp; rfl)
                refine takesB_step (v := ?av5) rfl ?ah5 ?ak5
                case ah5 => (intro w' hw'; have hka := HKA.out w' hw'; have hkb := HKB.out w' hw'; go_simp; rfl)
                refine takesB_step (v := ?av6) rfl ?ah6 ?ak6
                case ah6 => (intro w' hw'; have hka := HKA.out w' hw'; have hkb := HKB.out w' hw'; go_simp; rfl)
                refine takesB_step (v := ?av7) rfl ?ah7 ?ak7
                case ah7 => (intro w' hw'; have hka := HKA.out w' hw'; have hkb := HKB.out w' hw'; go_simp; rfl)
                refine takesB_step (v := ?av8) rfl ?ah8 ?ak8
                case ah8 => (intro w' hw'; have hka := HKA.out w' hw'; have hkb := HKB.out w' hw'; go_simp; rfl)
                refine takesB_step (v := ?av9) rfl ?ah9 ?ak9
                case ah9 => (intro w' hw'; have hka := HKA.out w' hw'; have hkb := HKB.out w' hw'; go_simp; rfl)
                refine takesB_step (v := ?av10) rfl ?ah10 ?ak10
                case ah10 => (intro w' hw'; have hka := HKA.out w' hw'; have hkb := HKB.out w' hw'; go_simp; rfl)
                refine takesB_step (v := ?av11) rfl ?ah11 ?ak11
                case ah11 => (intro w' hw'; have hka := HKA.out w' hw'; have hkb := HKB.out w' hw'; go_simp; rfl)
                refine takesB_step (v := ?av12) rfl ?ah12 ?ak12
                case ah12 => (intro w' hw'; have hka := HKA.out w' hw'; have hkb := HKB.out w' hw'; go_simp; rfl)
                refine takesB_step (v := ?av13) rfl ?ah13 ?ak13
                case ah13 => (intro w' hw'; have hka := HKA.out w' hw'; have hkb := HKB.out w' hw'; go_simp; rfl)
                refine takesB_step (v := ?av14) rfl ?ah14 ?ak14
                case ah14 => (intro w' hw'; have hka := HKA.out w' hw'; have hkb := HKB.out w' hw'; go_simp; rfl)
                simp only [Act.put, List.setIfInBounds_toArray, List.set_cons_zero, List.set_cons_succ]
                refine takesB_nil ⟨rfl, rfl, rfl, ?_⟩
                simp only [List.setIfInBounds_toArray, List.set_cons_zero, List.set_cons_succ]
                intro v1 w2 hown2 hb2 hg2 hat2
                refine ⟨rfl, ?_⟩
                have hst2 : WordsSt w.heap.size w w2 v1 E (4 * i + (p + 1)) := ⟨by rw [← Nat.add_assoc, HTK.out]; exact hown2, HO.out.below.trans hb2⟩
                have hn2 := (HN6.out.alloc _).keptA hg2 HAP.out
                have hap2 := HAP.out.next hat2 (by have := (HN6.out.lt g6 rfl).2; omega)
                have H1 := Lib.hid hst2
                have H2 := Lib.hid hn2
                have H3 := Lib.hid hap2
                clear hst2 hn2 hap2 hown2 hb2 hg2 hat2 hd1 hd2 hd3 hd5
                go_wp2_with fail
                go_roundw
                case rel => exact ⟨p + 1, by omega, by go_num, H1.out, H2.out, H3.out⟩
                case measure => simp [intOf]; omega
              · obtain rfl : p = 4 := by omega
                have HO := Lib.hid ho
                clear ho hn hap htl
                go_wp2_with fail
                go_roundw
                case rel => exact ⟨i + 1, by omega, by omega, by go_num, by rw [show 4 * (i + 1) = 4 * i + 4 from by omega]; exact HO.out⟩
                case measure => simp [intOf]; omega
    · obtain rfl : i = 44 := by omega
      have hEt : E.take (4 * 44) = E := List.take_of_length_le (by rw [HL.out]; omega)
      have HO := Lib.hid ho
      have HET := Lib.hid hEt
      simp only [Nat.reduceMul] at hv hlc
      subst hv
      clear ho hEt htl hcells
      go_wp2_with fail
      go_ret
      exact ⟨gw, cw, rfl, hBg, hlc, hcm, by have := HO.out.own; rw [HET.out] at this; exact this, HO.out.below⟩

set_option maxRecDepth 100000 in
set_option maxHeartbeats 4000000 in
theorem rwords8_any (l : List Nat) (A : Option Addr) (c : Nat) (w : World) (hin : IsB w A 32 c l) :
    Calls Tryz.prog 323 #[.slice A 32 c] w fun e w' => ∃ g cap, e = .returned (.slice (some ⟨g, 0, none⟩) 240 cap) ∧ w.heap.size ≤ g ∧ 240 ≤ cap ∧ cap ≤ 9223372036854775807 ∧ OwB w' w.heap.size (.slice (some ⟨g, 0, none⟩) 240 cap) (wordsAll 8 l) ∧ Below w.heap.size w w' := by
  have hE := wordsAll_exp (k := 8) (key := l) (by omega) (by rw [hin.len]) hin.2
  generalize wordsAll 8 l = E at hE
  have hlen : E.length = 240 := hE.len
  have hll : l.length = 32 := hin.len
  have hlE : l = E.take 32 := by
    apply List.ext_getElem (by rw [List.length_take, hlen, hll]; rfl)
    intro i h1 h2
    have := hE.own i (by omega)
    simp only [at', List.getElem?_eq_getElem h1, List.getElem?_eq_getElem (show i < E.length by omega), Option.getD_some] at this
    rw [List.getElem_take]
    exact this.symm
  obtain ⟨i0, hi0, hz0, hz1, hz2⟩ := info_parts infoU8
  have HE := Lib.hid hE
  have HIN := Lib.hid hin
  have HL := Lib.hid hlen
  have HLE := Lib.hid hlE
  have HLL := Lib.hid hll
  clear hE hin hlen hlE hll
  go_enter Tryz.func323, Tryz.ntmps323
  go_wp2_with fail
  refine (copy_any A 32 c l _ HIN.out (by omega)).mono ?_
  rintro e w1 ⟨rfl, hbk, hb1⟩
  have hw1 : WordsSt w.heap.size w w1 (.slice (some ⟨w.heap.size, 0, none⟩) 32 35) E (4 * 8) := ⟨OwB.ofBk hbk (Nat.le_refl _) (by rw [← HLE.out, HLL.out]) (by omega) (by rw [List.length_append, HLL.out, zeros_len]) (by omega) (by rw [List.take_append_of_le_length (by rw [HLL.out]; omega), List.take_of_length_le (by rw [HLL.out]; omega)]; exact HLE.out) (HE.out.byt.take _), hb1⟩
  have HW1 := Lib.hid hw1
  clear hbk hb1 hw1
  go_wp2_with fail
  go_loopw [4, 5] (fun v j wr => ∃ i : Nat, 8 ≤ i ∧ i ≤ 60 ∧ j = .int .i64 i ∧ WordsSt w.heap.size w wr v E (4 * i)) (fun _ j _ => 60 - (intOf j).toNat)
  case atStart => exact ⟨8, by omega, by omega, rfl, HW1.out⟩
  case round =>
    obtain ⟨i, hi1, hi2, rfl, ho⟩ := hrel
    clear HW1
    have htl : (E.take (4 * i)).length = 4 * i := by rw [List.length_take, HL.out]; omega
    obtain ⟨gw, cw, hv, hBg, hgl, hlc, hcm, hcells⟩ := ho.own.form (by omega)
    rw [htl] at hv hlc hcells
    by_cases hlt : i < 60
    · subst hv
      obtain ⟨wo, rfl⟩ : ∃ wo : World, wo = wr := ⟨_, rfl⟩
      obtain ⟨j, hj⟩ : ∃ j, i = j + 1 := ⟨i - 1, by omega⟩
      have hj1 : (i : Int) - 1 = (j : Int) := by omega
      have hjT : (j : Int) < 60 := by omega
      have hij : (j : Int) < (i : Int) := by omega
      have hiT : (i : Int) < 60 := by omega
      have hlti : decide ((i : Int) < 60) = true := by simpa using hiT
      have hi0' : (8 : Int) ≤ (i : Int) := by omega
      have hE4 : ∀ m, m < 4 * i → wo.cell? ⟨gw, m, none⟩ = some (.int .u8 (at' E m : Nat)) := fun m hm => by rw [hcells m hm, at'_take hm]
      have HE4 := Lib.hid hE4
      have HO := Lib.hid ho
      have HH := Lib.hid (Nat.le_refl wo.heap.size)
      generalize hT : (E.drop (4 * j)).take 4 = T
      have hTl : T.length = 4 := by rw [← hT]; simp [HL.out]; omega
      have hTa : ∀ p, p < 4 → at' T p = at' E (4 * j + p) := fun p hp => by rw [← hT]; simp [at', hp]
      have hTb : Byt T := by rw [← hT]; exact fun x hx => HE.out.byt x (List.mem_of_mem_drop (List.mem_of_mem_take hx))
      have HTL := Lib.hid hTl
      have HTA := Lib.hid hTa
      have HJ := Lib.hid hj
      clear hE4 hcells ho hT hTl hTa hj htl hlc
      go_wp2_with fail
      go_loopw [6, 7] (fun v q wx => ∃ p : Nat, p ≤ 4 ∧ q = .int .i64 p ∧ OwB wx wo.heap.size v (T.take p) ∧ Below wo.heap.size wo wx) (fun _ q _ => 4 - (intOf q).toNat)
      case atStart => exact ⟨0, by omega, rfl, by rw [List.take_zero]; exact OwB.nil _ _, Below.refl _ _⟩
      case round =>
        obtain ⟨p, hp, rfl, hown, hbx⟩ := hrel
        by_cases hlp : p < 4
        · have hpi : (p : Int) < 4 := by omega
          have hcl : wr.cell? ⟨gw, 4 * j + p, none⟩ = some (.int .u8 (at' T p : Nat)) := by
            rw [hbx.cell (p := ⟨gw, 4 * j + p, none⟩) hgl, HE4.out _ (by have := HJ.out; omega), HTA.out p hlp]
          have hy := hTb.at' p
          have htk := take_at' (l := T) (p := p) (by rw [HTL.out]; exact hlp)
          generalize at' T p = y at hcl hy htk
          have HTK := Lib.hid htk
          have HOW := Lib.hid hown
          have HBX := Lib.hid hbx
          have htl : (T.take p).length = p := by rw [List.length_take, HTL.out]; omega
          have HTP := Lib.hid htl
          have hwi : 4 * (j : Int) + (p : Int) < 4 * (i : Int) := by omega
          clear hown hbx htk htl
          go_wp2_with (refine wpList_appB _ rfl (.tmp 29) (.tmp 38) rfl Tryz.underlying22 hi0 hz0 hz1 hz2 rfl (HOW.out.alloc _) rfl (isB_one _ y hy) rfl (by rw [HTP.out]; omega) (by have := HBX.out.size; simp; omega) ?_; intro v1 w2 hown2 hb2 hg2 hat2; rw [← HTK.out] at hown2)
          have hb3 := (HBX.out.alloc HBX.out.size _).trans hb2
          have HO2 := Lib.hid hown2
          have HB3 := Lib.hid hb3
          clear hown2 hb2 hg2 hat2 hb3
          go_wp2_with fail
          go_roundw
          case rel => exact ⟨p + 1, by omega, by go_num, HO2.out, HB3.out⟩
          case measure => simp [intOf]; omega
        · obtain rfl : p = 4 := by omega
          rw [List.take_of_length_le (by rw [HTL.out]; omega)] at hown
          obtain ⟨gt, ct, hv, hHg, hgtl, hlct, hcmt, hct⟩ := hown.form (by rw [HTL.out]; omega)
          rw [HTL.out] at hv hlct hct
          subst hv
          have hx0 := HTA.out 0 (by omega)
          have hx1 := HTA.out 1 (by omega)
          have hx2 := HTA.out 2 (by omega)
          have hx3 := HTA.out 3 (by omega)
          have hb0 := hTb.at' 0
          have hb1 := hTb.at' 1
          have hb2 := hTb.at' 2
          have hb3 := hTb.at' 3
          have hc0 := hct 0 (by omega)
          have hc1 := hct 1 (by omega)
          have hc2 := hct 2 (by omega)
          have hc3 := hct 3 (by omega)
          have hnx : nx 8 E i = nx 8 E i := rfl
          conv at hnx => rhs; unfold nx
          rw [show 4 * (i - 1) = 4 * j + 0 from by have := HJ.out; omega, ← hx0, show 4 * j + 0 + 1 = 4 * j + 1 from rfl, ← hx1, show 4 * j + 0 + 2 = 4 * j + 2 from rfl, ← hx2, show 4 * j + 0 + 3 = 4 * j + 3 from rfl, ← hx3] at hnx
          have hTe : T = [at' T 0, at' T 1, at' T 2, at' T 3] := four_eq HTL.out rfl rfl rfl rfl
          clear hx0 hx1 hx2 hx3 hct
          generalize at' T 0 = t0 at *
          generalize at' T 1 = t1 at *
          generalize at' T 2 = t2 at *
          generalize at' T 3 = t3 at *
          have HOT := Lib.hid hown
          have HBX := Lib.hid hbx
          have hgti : gt < wr.heap.size := hgtl
          have HNX := Lib.hid hnx
          have HTE := Lib.hid hTe
          have HTB := Lib.hid hTb
          clear hown hbx hnx hTe hTb
          obtain ⟨s0, hs0⟩ : ∃ s, sbox t0 = s := ⟨_, rfl⟩
          obtain ⟨s1, hs1⟩ : ∃ s, sbox t1 = s := ⟨_, rfl⟩
          obtain ⟨s2, hs2⟩ : ∃ s, sbox t2 = s := ⟨_, rfl⟩
          obtain ⟨s3, hs3⟩ : ∃ s, sbox t3 = s := ⟨_, rfl⟩
          have hl0 := sbox_lt t0 hb0
          have hl1 := sbox_lt t1 hb1
          have hl2 := sbox_lt t2 hb2
          have hl3 := sbox_lt t3 hb3
          rw [hs0] at hl0
          rw [hs1] at hl1
          rw [hs2] at hl2
          rw [hs3] at hl3
          have hN := HNX.out
          rw [hs0, hs1, hs2, hs3] at hN
          have HN := Lib.hid hN
          have HS0 := Lib.hid hs0
          have HS1 := Lib.hid hs1
          have HS2 := Lib.hid hs2
          have HS3 := Lib.hid hs3
          clear hs0 hs1 hs2 hs3 hN HNX
          obtain ⟨r, hr⟩ : ∃ r, i % 8 = r := ⟨_, rfl⟩
          have hmod : (i : Int).tmod 8 = (r : Int) := by rw [Int.tmod_eq_emod_of_nonneg (by omega)]; omega
          have hmod2 : (i : Int) % 8 = (r : Int) := by omega
          have HR := Lib.hid hr
          clear hr
          go_upto_if 43 with (fail)
          rw [show ((4 : Nat) : Int) = 4 from rfl]
          clear hmod hmod2
          go_cut [6, 8, 9, 10] from 39 to 89 (fun v6 v8 v9 v10 wx => OwB wx wo.heap.size v6 (nx 8 E i) ∧ Below wo.heap.size wo wx)
          case first =>
            by_cases hr0 : r = 0
            · have hr0i : ((r : Int) == 0) = true := by rw [hr0]; rfl
              have HR0 := Lib.hid hr0
              rw [hr0i]
              clear hr0
              go_wp2_with fail
              go_loopw [8, 9] (fun v q wx => ∃ p : Nat, p ≤ 4 ∧ q = .int .i64 p ∧ OwB wx wo.heap.size v ([s1, s2, s3, s0].take p) ∧ OwB wx wo.heap.size (.slice (some ⟨gt, 0, none⟩) 4 ct) T ∧ ApartB v gt ∧ Below wo.heap.size wo wx) (fun _ q _ => 4 - (intOf q).toNat)
              case atStart => exact ⟨0, by omega, rfl, OwB.nil _ _, HOT.out, ApartB.nil _, HBX.out⟩
              case round =>
                obtain ⟨p, hp, rfl, hu, ht, hne, hbx⟩ := hrel
                by_cases hlp : p < 4
                · have hpi : (p : Int) < 4 := by omega
                  have htk := take_at' (l := [s1, s2, s3, s0]) (p := p) (by simpa using hlp)
                  have hm : ∃ m tm sm : Nat, (p + 1) % 4 = m ∧ at' T m = tm ∧ sbox tm = sm ∧ at' [s1, s2, s3, s0] p = sm ∧ tm < 256 ∧ sm < 256 ∧ m < 4 := by
                    rw [HTE.out]
                    match p, hlp with
                    | 0, _ => exact ⟨1, t1, s1, rfl, rfl, HS1.out, rfl, hb1, hl1, by omega⟩
                    | 1, _ => exact ⟨2, t2, s2, rfl, rfl, HS2.out, rfl, hb2, hl2, by omega⟩
                    | 2, _ => exact ⟨3, t3, s3, rfl, rfl, HS3.out, rfl, hb3, hl3, by omega⟩
                    | 3, _ => exact ⟨0, t0, s0, rfl, rfl, HS0.out, rfl, hb0, hl0, by omega⟩
                  obtain ⟨m, tm, sm, hm1, hm2, hm3, hm4, htm, hsm, hm5⟩ := hm
                  have hcl := ht.rw m (by rw [HTL.out]; exact hm5)
                  rw [hm2] at hcl
                  rw [hm4] at htk
                  have hmo : ((p : Int) + 1).tmod 4 = (m : Int) := by rw [Int.tmod_eq_emod_of_nonneg (by omega)]; omega
                  have hmo2 : ((p : Int) + 1) % 4 = (m : Int) := by omega
                  have hmi : (m : Int) < 4 := by omega
                  have HTK := Lib.hid htk
                  have HU := Lib.hid hu
                  have HT := Lib.hid ht
                  have HNE := Lib.hid hne
                  have HBX2 := Lib.hid hbx
                  have HM3 := Lib.hid hm3
                  have hul : (([s1, s2, s3, s0] : List Nat).take p).length = p := by rw [List.length_take]; simp; omega
                  have HUL := Lib.hid hul
                  generalize ([s1, s2, s3, s0] : List Nat).take p = U at HTK HU HUL
                  clear htk hu ht hne hbx hm1 hm2 hm3 hm4 hul
                  go_wp2_with (first
                    | (go_at_call 325; refine (rSub_any tm htm _).mono ?_; rintro e w' ⟨rfl, rfl⟩; rw [HM3.out])
                    | (refine wpList_appB _ rfl (.tmp 48) (.tmp 56) rfl Tryz.underlying22 hi0 hz0 hz1 hz2 rfl (HU.out.alloc _) rfl (isB_one _ sm hsm) rfl (by rw [HUL.out]; omega) (by have := HBX2.out.size; simp; omega) ?_; intro v1 w2 hown2 hb2 hg2 hat2))
                  have ha : ApartB v1 gt := HNE.out.next hat2 (by have := (HT.out.lt gt rfl).2; simp; omega)
                  have ht2 : OwB w2 wo.heap.size (.slice (some ⟨gt, 0, none⟩) 4 ct) T := (HT.out.alloc _).keptA hg2 HNE.out
                  have hb4 : Below wo.heap.size wo w2 := (HBX2.out.alloc HBX2.out.size _).trans hb2
                  rw [← HTK.out] at hown2
                  have H1 := Lib.hid hown2
                  have H2 := Lib.hid ha
                  have H3 := Lib.hid ht2
                  have H4 := Lib.hid hb4
                  clear hown2 ha ht2 hb4 hb2 hg2 hat2
                  go_roundw
                  case rel => exact ⟨p + 1, by omega, by go_num, H1.out, H3.out, H2.out, H4.out⟩
                  case measure => simp [intOf]; omega
                · obtain rfl : p = 4 := by omega
                  rw [List.take_of_length_le (by simp)] at hu
                  obtain ⟨gu, cu, hv, hHu, hgul, hluc, hcmu, hcu⟩ := hu.form (by simp)
                  simp only [List.length_cons, List.length_nil, Nat.zero_add, Nat.reduceAdd] at hv hluc
                  subst hv
                  have hc0 := hcu 0 (by simp)
                  have hf0 := hu.free rfl 0
                  change wr.cell? ⟨gu, 0, none⟩ = some (.int .u8 ((s1 : Nat) : Int)) at hc0
                  obtain ⟨q, hq⟩ : ∃ q, i = 8 * (q + 1) := ⟨i / 8 - 1, by have := HR.out; have := HR0.out; omega⟩
                  have hq0 : IntKind.i64.wrap ((i : Int) / 8) = (q : Int) + 1 := by rw [IntWalk.i64_in _ (by omega)]; omega
                  have hq1 : IntKind.i64.wrap (q : Int) = (q : Int) := by rw [IntWalk.i64_in _ (by omega)]
                  have hq2 : IntKind.u32.wrap (q : Int) = (q : Int) := wrap_u32 _ (by omega) (by omega)
                  have HQ := Lib.hid hq
                  have hq15 : q < 16 := by omega
                  clear hq hcu
                  obtain ⟨x, hx⟩ : ∃ x, gpow 2 q = x := ⟨_, rfl⟩
                  have hxb := gpow_lt q hq15
                  rw [hx] at hxb
                  have hcall : ∀ W : World, Calls Tryz.prog 345 #[.int .u8 2, .int .u32 (q : Int)] W fun e w' => e = .returned (.int .u8 (x : Int)) ∧ w' = W := fun W => by
                    rw [← hx]
                    exact same_of (rPow_any q hq15 W)
                  have hxo := bits_xor_u8 s1 x hl1 hxb
                  have hyb := xor_lt hl1 hxb
                  have hnn : nx 8 E i = [s1 ^^^ x, s2, s3, s0] := by rw [HN.out, if_pos (HR.out.trans HR0.out), ← hx, show i / 8 - 1 = q from by have := HQ.out; omega]
                  obtain ⟨y, hy⟩ : ∃ y, s1 ^^^ x = y := ⟨_, rfl⟩
                  rw [hy] at hxo hyb hnn
                  have hst := hu.drew.store (k := 0) (x := y) rfl hyb
                  have HC := Lib.hid hcall
                  have HNN := Lib.hid hnn
                  have HST := Lib.hid hst
                  have HBX2 := Lib.hid hbx
                  clear hu ht hne hbx hx hcall hnn hst hy
                  go_wp2_with fail
                  refine wp_still_tail 12 (by kernel_rfl) (by kernel_rfl) ?_
                  simp only [List.take_succ_cons, List.take_zero, List.drop_succ_cons, List.drop_zero]
                  repeat still_step
                  refine wpStill_step (fun K hK => ?_)
                  go_simp
                  refine ⟨_, HC.out _, hK _ ?_⟩
                  clear hK K
                  repeat still_step
                  refine wpStill_nil ?_
                  clear hq0 hq1 hq2
                  go_wp2_with fail
                  go_meet
                  case rel => exact ⟨by rw [HNN.out]; exact HST.out, HBX2.out.drew.setCell hHu _⟩
            · have hr0i : ((r : Int) == 0) = false := by rw [beq_eq_false_iff_ne]; omega
              have HR0 := Lib.hid hr0
              rw [hr0i]
              clear hr0
              by_cases hr4 : i % 8 = 4
              · have hr4i : ((i : Int) % 8 == 4) = true := by rw [beq_iff_eq]; omega
                have HR4 := Lib.hid hr4
                have hTn : nx 8 E i = [s0, s1, s2, s3] := by rw [HN.out, if_neg (by rw [hr4]; omega), if_pos ⟨rfl, hr4⟩]
                have hup : upd (fun p => sbox (at' T p)) T 4 = [s0, s1, s2, s3] := by
                  have := upd_all (fun p => sbox (at' T p)) T
                  rw [HTL.out] at this
                  rw [this, HTE.out]
                  show [sbox t0, sbox t1, sbox t2, sbox t3] = _
                  rw [HS0.out, HS1.out, HS2.out, HS3.out]
                have HTN := Lib.hid (hTn.trans hup.symm)
                clear hr4 hTn hup
                go_wp2_with fail
                go_loopw [10] (fun q wx => ∃ p : Nat, p ≤ 4 ∧ q = .int .i64 p ∧ OwB wx wo.heap.size (.slice (some ⟨gt, 0, none⟩) 4 ct) (upd (fun p => sbox (at' T p)) T p) ∧ Below wo.heap.size wo wx) (fun q _ => 4 - (intOf q).toNat)
                case atStart => exact ⟨0, by omega, rfl, by rw [upd_zero]; exact HOT.out, HBX.out⟩
                case round =>
                  obtain ⟨p, hp, rfl, ht, hbx⟩ := hrel
                  by_cases hlp : p < 4
                  · have hpi : (p : Int) < 4 := by omega
                    have hcl := ht.rw p (by rw [upd_len, HTL.out]; exact hlp)
                    have hux : at' (upd (fun p => sbox (at' T p)) T p) p = at' T p := by
                      have := upd_cell (F := fun p => sbox (at' T p)) (s := T) (k := p) (by rw [HTL.out]; exact hlp)
                      exact this
                    rw [hux] at hcl
                    have hfr := ht.free (by rw [upd_len, HTL.out]) p
                    have htb := HTB.out.at' p
                    have hst := ht.store (k := p) (x := sbox (at' T p)) (by rw [upd_len, HTL.out]) (sbox_lt _ htb)
                    rw [upd_step (fun p => sbox (at' T p)) T p (by rw [HTL.out]; exact hlp)] at hst
                    have hsb := hbx.setCell (p := ⟨gt, p, none⟩) hHg (.int .u8 ((sbox (at' T p) : Nat) : Int))
                    obtain ⟨tp, htp⟩ : ∃ t, at' T p = t := ⟨_, rfl⟩
                    obtain ⟨sp, hsp⟩ : ∃ s, sbox (at' T p) = s := ⟨_, rfl⟩
                    rw [hsp] at hst hsb
                    rw [htp] at hcl htb hsp
                    have HSP := Lib.hid hsp
                    have HST := Lib.hid hst
                    have HSB := Lib.hid hsb
                    clear ht hbx hux hst hsb htp hsp
                    go_wp2_with (go_at_call 325; refine (rSub_any tp htb _).mono ?_; rintro e w' ⟨rfl, rfl⟩; rw [HSP.out])
                    go_roundw
                    case rel => exact ⟨p + 1, by omega, by go_num, HST.out, HSB.out⟩
                    case measure => simp [intOf]; omega
                  · obtain rfl : p = 4 := by omega
                    have HT := Lib.hid ht
                    have HB := Lib.hid hbx
                    clear ht hbx
                    go_wp2_with fail
                    go_meet
                    case rel => exact ⟨by rw [HTN.out]; exact HT.out, HB.out⟩
              · have hr4i : ((i : Int) % 8 == 4) = false := by rw [beq_eq_false_iff_ne]; omega
                have HR4 := Lib.hid hr4
                clear hr4
                go_wp2_with fail
                go_meet
                case rel => exact ⟨by rw [HN.out, if_neg (by have := HR.out; have := HR0.out; omega), if_neg (fun h => HR4.out h.2), ← HTE.out]; exact HOT.out, HBX.out⟩
          case rest =>
            obtain ⟨hN6, hbx⟩ := hcut
            have hNl : (nx 8 E i).length = 4 := nx_len _ _ _
            have hNb : Byt (nx 8 E i) := nx_byt HE.out.byt (by omega) hlt
            have HNEXT := Lib.hid (HE.out.next i (by omega) hlt)
            generalize nx 8 E i = N at hN6 hNl hNb HNEXT
            obtain ⟨g6, c6, hv, hHg6, hg6l, hc64, hc6m, hc6⟩ := hN6.form (by omega)
            rw [hNl] at hv hc64 hc6
            subst hv
            have HNL := Lib.hid hNl
            have HN6 := Lib.hid hN6
            have HBX3 := Lib.hid hbx
            clear hN6 hbx hNl hc6 HOT HN HS0 HS1 HS2 HS3 HBX
            have hst := (⟨HO.out.own.below HBX3.out (fun g hg => by injection hg with hg; subst hg; exact hgl), HO.out.below.trans (HBX3.out.mono HO.out.below.size)⟩ : WordsSt w.heap.size w _ _ E (4 * i))
            have hap : ApartB (.slice (some ⟨gw, 0, none⟩) (4 * i) cw) g6 := fun b hb => by injection hb with hb; subst hb; show gw ≠ g6; omega
            have HST := Lib.hid hst
            have HAP := Lib.hid hap
            clear hst hap
            go_wp2_with fail
            go_loopw [4, 11] (fun v q wx => ∃ p : Nat, p ≤ 4 ∧ q = .int .i64 p ∧ WordsSt w.heap.size w wx v E (4 * i + p) ∧ OwB wx wo.heap.size (.slice (some ⟨g6, 0, none⟩) 4 c6) N ∧ ApartB v g6) (fun _ q _ => 4 - (intOf q).toNat)
            case atStart => exact ⟨0, by omega, rfl, HST.out, HN6.out, HAP.out⟩
            case round =>
              obtain ⟨p, hp, rfl, ho, hn, hap⟩ := hrel
              clear HST HN6 HAP
              have htl : (E.take (4 * i + p)).length = 4 * i + p := by rw [List.length_take, HL.out]; omega
              by_cases hlp : p < 4
              · have hpi : (p : Int) < 4 := by omega
                obtain ⟨g4, c4, hv, hB4, hg4l, hl4c, hc4m, hc4⟩ := ho.own.form (by omega)
                rw [htl] at hv hl4c hc4
                subst hv
                obtain ⟨d, hd⟩ : ∃ d, i = d + 8 := ⟨i - 8, by omega⟩
                have hd1 : IntKind.i64.wrap ((i : Int) - 8) = (d : Int) := by rw [IntWalk.i64_in _ (by omega)]; omega
                have hd2 : IntKind.i64.wrap (4 * (d : Int)) = 4 * (d : Int) := IntWalk.i64_in _ (by omega)
                have hd3 : IntKind.i64.wrap (4 * (d : Int) + (p : Int)) = 4 * (d : Int) + (p : Int) := IntWalk.i64_in _ (by omega)
                have hd4 : (0 : Int) ≤ 4 * (d : Int) + (p : Int) := by omega
                have hd5 : (4 * (d : Int) + (p : Int)).toNat = 4 * d + p := by omega
                have hd6 : 4 * (d : Int) + (p : Int) < ((4 * i + p : Nat) : Int) := by omega
                have hd7 : 4 * (d : Int) + (p : Int) < 4 * (i : Int) + (p : Int) := by omega
                have hcx := hn.rw p (by rw [HNL.out]; exact hlp)
                have hcy := hc4 (4 * d + p) (by omega)
                rw [at'_take (by omega)] at hcy
                have hxb := hNb.at' p
                have hyb := HE.out.byt.at' (4 * d + p)
                have hnext := HNEXT.out p hlp
                rw [show i - 8 = d from by omega] at hnext
                have htk := take_at' (l := E) (p := 4 * i + p) (by rw [HL.out]; omega)
                rw [hnext] at htk
                clear hnext
                generalize at' N p = zx at hcx hxb htk
                generalize at' E (4 * d + p) = zy at hcy hyb htk
                have hxo := bits_xor_u8 zx zy hxb hyb
                have hxy := xor_lt hxb hyb
                generalize zx ^^^ zy = z at hxo hxy htk
                have HTK := Lib.hid htk
                have HO := Lib.hid ho
                have HN6 := Lib.hid hn
                have HAP := Lib.hid hap
                have HTL := Lib.hid htl
                have hg64 : g6 ≠ g4 := fun e => hap g4 rfl e.symm
                have hkA : ∀ w', KeepA wr (.slice (some ⟨g4, 0, none⟩) (4 * i + p) c4) (E.take (4 * i + p)).length w' → w'.cell? ⟨g6, p, none⟩ = some (.int .u8 (zx : Int)) := fun w' h => h _ _ hcx (fun g hg e => by injection hg with hg; exact absurd (e.trans hg.symm) hg64)
                have hkB : ∀ w', KeepA wr (.slice (some ⟨g4, 0, none⟩) (4 * i + p) c4) (E.take (4 * i + p)).length w' → w'.cell? ⟨g4, 4 * d + p, none⟩ = some (.int .u8 (zy : Int)) := fun w' h => h _ _ hcy (fun g hg e => ⟨rfl, by rw [HTL.out]; show 4 * d + p < 4 * i + p; omega⟩)
                have HKA := Lib.hid hkA
                have HKB := Lib.hid hkB
                clear htk ho hn hap htl hd hc4 hkA hkB
                go_wp2_with fail
                refine wp_take_append wr 15 (.tmp 94) (.tmp 108) (t := 22) (d1 := 109) (d2 := 110) (d3 := 4) rfl (by kernel_rfl) (by kernel_rfl) (by kernel_rfl) (fun _ _ _ d _ h => by cases d <;> exact h) rfl rfl rfl rfl rfl rfl rfl rfl rfl rfl rfl rfl (by kernel_rfl) (by kernel_rfl) (by kernel_rfl) (by kernel_rfl) Tryz.underlying22 hi0 hz0 hz1 hz2 rfl _ _ HO.out.own (by rw [HTL.out]; omega) HO.out.below.size z hxy (fun a w' hx => build1 (.tmp 108) _ _ _ _ z a w' hx) ?_
                simp only [List.take_succ_cons, List.take_zero]
                refine takesB_step (v := ?av0) rfl ?ah0 ?ak0
                case ah0 => (intro w' hw'; have hka := HKA.out w' hw'; have hkb := HKB.out w' hw'; go_simp; rfl)
                refine takesB_step (v := ?av1) rfl ?ah1 ?ak1
                case ah1 => (intro w' hw'; have hka := HKA.out w' hw'; have hkb := HKB.out w' hw'; go_simp; rfl)
                refine takesB_step (v := ?av2) rfl ?ah2 ?ak2
                case ah2 => (intro w' hw'; have hka := HKA.out w' hw'; have hkb := HKB.out w' hw'; go_simp; rfl)
                refine takesB_step (v := ?av3) rfl ?ah3 ?ak3
                case ah3 => (intro w' hw'; have hka := HKA.out w' hw'; have hkb := HKB.out w' hw'; go_simp; rfl)
                refine takesB_step (v := ?av4) rfl ?ah4 ?ak4
                case ah4 => (intro w' hw'; have hka := HKA.out w' hw'; have hkb := HKB.out w' hw'; go_simp; rfl)
                refine takesB_step (v := ?av5) rfl ?ah5 ?ak5
                case ah5 => (intro w' hw'; have hka := HKA.out w' hw'; have hkb := HKB.out w' hw'; go_simp; rfl)
                refine takesB_step (v := ?av6) rfl ?ah6 ?ak6
                case ah6 => (intro w' hw'; have hka := HKA.out w' hw'; have hkb := HKB.out w' hw'; go_simp; rfl)
                refine takesB_step (v := ?av7) rfl ?ah7 ?ak7
                case ah7 => (intro w' hw'; have hka := HKA.out w' hw'; have hkb := HKB.out w' hw'; go_simp; rfl)
                refine takesB_step (v := ?av8) rfl ?ah8 ?ak8
                case ah8 => (intro w' hw'; have hka := HKA.out w' hw'; have hkb := HKB.out w' hw'; go_simp; rfl)
                refine takesB_step (v := ?av9) rfl ?ah9 ?ak9
                case ah9 => (intro w' hw'; have hka := HKA.out w' hw'; have hkb := HKB.out w' hw'; go_simp; rfl)
                refine takesB_step (v := ?av10) rfl ?ah10 ?ak10
                case ah10 => (intro w' hw'; have hka := HKA.out w' hw'; have hkb := HKB.out w' hw'; go_simp; rfl)
                refine takesB_step (v := ?av11) rfl ?ah11 ?ak11
                case ah11 => (intro w' hw'; have hka := HKA.out w' hw'; have hkb := HKB.out w' hw'; go_simp; rfl)
                refine takesB_step (v := ?av12) rfl ?ah12 ?ak12
                case ah12 => (intro w' hw'; have hka := HKA.out w' hw'; have hkb := HKB.out w' hw'; go_simp; rfl)
                refine takesB_step (v := ?av13) rfl ?ah13 ?ak13
                case ah13 => (intro w' hw'; have hka := HKA.out w' hw'; have hkb := HKB.out w' hw'; go_simp; rfl)
                refine takesB_step (v := ?av14) rfl ?ah14 ?ak14
                case ah14 => (intro w' hw'; have hka := HKA.out w' hw'; have hkb := HKB.out w' hw'; go_simp; rfl)
                simp only [Act.put, List.setIfInBounds_toArray, List.set_cons_zero, List.set_cons_succ]
                refine takesB_nil ⟨rfl, rfl, rfl, ?_⟩
                simp only [List.setIfInBounds_toArray, List.set_cons_zero, List.set_cons_succ]
                intro v1 w2 hown2 hb2 hg2 hat2
                refine ⟨rfl, ?_⟩
                have hst2 : WordsSt w.heap.size w w2 v1 E (4 * i + (p + 1)) := ⟨by rw [← Nat.add_assoc, HTK.out]; exact hown2, HO.out.below.trans hb2⟩
                have hn2 := (HN6.out.alloc _).keptA hg2 HAP.out
                have hap2 := HAP.out.next hat2 (by have := (HN6.out.lt g6 rfl).2; omega)
                have H1 := Lib.hid hst2
                have H2 := Lib.hid hn2
                have H3 := Lib.hid hap2
                clear hst2 hn2 hap2 hown2 hb2 hg2 hat2 hd1 hd2 hd3 hd5
                go_wp2_with fail
                go_roundw
                case rel => exact ⟨p + 1, by omega, by go_num, H1.out, H2.out, H3.out⟩
                case measure => simp [intOf]; omega
              · obtain rfl : p = 4 := by omega
                have HO := Lib.hid ho
                clear ho hn hap htl
                go_wp2_with fail
                go_roundw
                case rel => exact ⟨i + 1, by omega, by omega, by go_num, by rw [show 4 * (i + 1) = 4 * i + 4 from by omega]; exact HO.out⟩
                case measure => simp [intOf]; omega
    · obtain rfl : i = 60 := by omega
      have hEt : E.take (4 * 60) = E := List.take_of_length_le (by rw [HL.out]; omega)
      have HO := Lib.hid ho
      have HET := Lib.hid hEt
      simp only [Nat.reduceMul] at hv hlc
      subst hv
      clear ho hEt htl hcells
      go_wp2_with fail
      go_ret
      exact ⟨gw, cw, rfl, hBg, hlc, hcm, by have := HO.out.own; rw [HET.out] at this; exact this, HO.out.below⟩

end Go.Proofs.YtakgebbeknfplaaGreat
