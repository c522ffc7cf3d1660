/-
  WALKS: the reference's Crypt (ref05).
-/
import Derived.Test.YtakgebbeknfplaaGreatGcB
namespace Go.Proofs.YtakgebbeknfplaaGreat
open Go.RowKit
set_option linter.unusedVariables false

theorem Bk.kept {w w' : World} {b : Nat} {t : TypeId} {l : List Nat} (h : Bk w b t l) {row : Option Nat} (hg : w.grownBy w' row) (hne : some b ≠ row) : Bk w' b t l := (hg.block b h.lt hne).trans h
/-- in the loop -/
structure RcSt (B0 gc : Nat) (w0 w : World) (v : Value) (at_ blk out : List Nat) : Prop where
  cb : Bk w gc 365 at_
  bb : Bk w (gc + 1) 365 blk
  own : OwB w B0 v out
  below : Below B0 w0 w
  a1 : ApartB v gc
  a2 : ApartB v (gc + 1)
  lo : B0 ≤ gc
section
variable {B0 gc : Nat} {w0 w w' : World} {v : Value} {at_ blk out : List Nat}
theorem RcSt.call (h : RcSt B0 gc w0 w v at_ blk out) (hs : B0 ≤ w.heap.size) (hb : Below w.heap.size w w') : RcSt B0 gc w0 w' v at_ blk out := ⟨h.cb.ab hb, h.bb.ab hb, h.own.ab hb, below_tr h.below hb hs, h.a1, h.a2, h.lo⟩
theorem OwB.rowFar (h : OwB w B0 v out) {c : Nat} (hne : ApartB v c) (cs : Array Value) : OwB (w.setRow c cs) B0 v out :=
  ⟨⟨h.own.1, by
    rcases h.own.2 with hn | ⟨g, cap, cur, rfl, hb', hgg, rest⟩
    · exact .inl hn
    · exact .inr ⟨g, cap, cur, rfl, hb', (setRow_other w c g cs (hne g rfl)).trans hgg, rest⟩⟩, h.byt⟩
theorem RcSt.rowC (h : RcSt B0 gc w0 w v at_ blk out) (l : List Nat) : RcSt B0 gc w0 (w.setRow gc (bts l)) v l blk out := ⟨h.cb.row l, h.bb.rowFar (by omega) _, h.own.rowFar h.a1 _, Below.row h.below h.lo _, h.a1, h.a2, h.lo⟩
theorem RcSt.rowB (h : RcSt B0 gc w0 w v at_ blk out) (l : List Nat) : RcSt B0 gc w0 (w.setRow (gc + 1) (bts l)) v at_ l out := ⟨h.cb.rowFar (by omega) _, h.bb.row l, h.own.rowFar h.a2 _, Below.row h.below (by have := h.lo; omega) _, h.a1, h.a2, h.lo⟩
end
theorem crypt_snoc {key nonce text : List Nat} {i : Nat} (hi : i < text.length) : (cryptA key nonce text).take (i + 1) = (cryptA key nonce text).take i ++ [at' text i ^^^ ksB key (firstC nonce) i] := by
  rw [take_snoc' (by rw [cryptA_len]; exact hi), cryptA_at hi]
theorem blkS_more {key first : List Nat} {i : Nat} (h : i % 16 ≠ 0) : blkS key first (i + 1) = blkS key first i := by
  rw [blkS_next, atS_more h]
  exact (if_neg (by intro h0; rw [h0] at h; exact h rfl)).symm

set_option maxRecDepth 100000 in
set_option maxHeartbeats 4000000 in
theorem rCrypt_any (kA nA tA : Option Addr) (kn kc nc tn tc : Nat) (key nonce text : List Nat) (w : World) (hK : KeyOk key) (ik : IsB w kA kn kc key) (inn : IsB w nA 12 nc nonce) (it : IsB w tA tn tc text) (ht : tn ≤ 140737488355327) :
    Calls Tryz.prog 237 #[.slice kA kn kc, .slice nA 12 nc, .slice tA tn tc] w fun e w' => ∃ v, e = .returned v ∧ OwB w' w.heap.size v (cryptA key nonce text) ∧ Below w.heap.size w w' := by
  have lk := ik.len
  have ln := inn.len
  have lt := it.len
  have hen := fun W x h1 h2 h3 => rEnc_any (key.length / 4) (key.length / 4 + 6) kn key x kA kc W hK.four rfl (by rw [← lk]; exact hK.len) h1 h2 h3
  have lf : (firstC nonce).length = 16 := firstC_len ln
  have bf : Byt (firstC nonce) := firstC_byt inn.2
  obtain ⟨i0, hi0, hz0, hz1, hz2⟩ := info_parts infoU8
  have IK := Lib.hid ik
  have IN := Lib.hid inn
  have IT := Lib.hid it
  have HEN := Lib.hid hen
  have HK := Lib.hid hK
  have LF := Lib.hid lf
  have LT := Lib.hid lt
  have HT := Lib.hid ht
  clear ik inn it hen hK lk ln lt lf ht
  go_enter Tryz.func237, Tryz.ntmps237
  go_wp2_with fail
  refine (rFirst_any nA nc nonce w IN.out).mono ?_
  rintro e w1 ⟨rfl, hb1⟩
  have R2 := Lib.hid hb1
  clear hb1
  go_wp2_with (refine wpList_storeN (l := z16) (o := ⟨none, .store _ (.tmp 7) (.tmp 12), _, _, _, _⟩) rfl 365 (.tmp 7) (.tmp 12) rfl w1.heap.size rfl (firstC nonce) rfl (t := 365) ?_ (by rw [LF.out]; exact sz16) (by rw [LF.out]; rfl) ?_
               · exact Bk.newAt _ z16 rfl
               intro w3 hw3
               have T1 : Hid (Bk w3 w1.heap.size 365 (firstC nonce)) := Lib.hid (by rw [hw3]; exact (show Bk (w1.alloc (.cells (bts z16) 365)) w1.heap.size 365 z16 from Bk.newAt _ z16 rfl).row _)
               have T2 : Hid (Below w.heap.size w w3) := Lib.hid (by rw [hw3]; exact Below.row (R2.out.alloc R2.out.size _) R2.out.size _)
               have hw3s : w3.heap.size = w1.heap.size + 1 := by rw [hw3]; simp
               clear hw3)
  have V0 : Hid (RcSt w.heap.size w1.heap.size w (w3.alloc (.cells (bts z16) 365)) (.slice none 0 0) (atS (firstC nonce) 0) (blkS key (firstC nonce) 0) ((cryptA key nonce text).take 0)) := Lib.hid
    ⟨T1.out.alloc _, Bk.newAt _ z16 hw3s.symm, OwB.nil _ _, T2.out.alloc T2.out.size _, ApartB.nil _, ApartB.nil _, R2.out.size⟩
  have H3S := Lib.hid hw3s
  clear T1 T2 R2
  generalize w1.heap.size = gc at *
  go_loopw [8, 10] (fun v j wr => ∃ i : Nat, i ≤ tn ∧ j = .int .i64 i ∧ RcSt w.heap.size gc w wr v (atS (firstC nonce) i) (blkS key (firstC nonce) i) ((cryptA key nonce text).take i)) (fun _ j _ => tn - (intOf j).toNat)
  case atStart => exact ⟨0, Nat.zero_le _, rfl, V0.out⟩
  case round =>
    obtain ⟨i, hi, rfl, hst⟩ := hrel
    by_cases hlt : i < tn
    · have hii : (i : Int) < (tn : Int) := by omega
      have HLT := Lib.hid hlt
      have hib : (i : Int) ≤ 140737488355326 := by have := HT.out; omega
      obtain ⟨x, rfl, hxb, hxc⟩ := IT.out.cell (by omega)
      have XC := Lib.hid (hxc i hlt)
      have XB := Lib.hid hxb
      have hsn := crypt_snoc (key := key) (nonce := nonce) (text := text) (i := i) (by rw [LT.out]; exact hlt)
      have hks := ksB_lt HK.out IK.out.2 bf i
      have hta := IT.out.2.at' i
      have hke := ksB_eq key (firstC nonce) i
      generalize hTX : at' text i = tx at *
      have HTX := Lib.hid hTX
      clear hTX
      have HSN := Lib.hid hsn
      obtain ⟨r, hr⟩ : ∃ r, r = i % 16 := ⟨_, rfl⟩
      have hr16 : r < 16 := by rw [hr]; exact Nat.mod_lt _ (by decide)
      rw [← hr] at hke
      have hkl : ksB key (firstC nonce) i = at' (blkS key (firstC nonce) (i + 1)) r := hke
      have hri : (r : Int) < 16 := by omega
      have hmod : (i : Int) % 16 = (r : Int) := by omega
      have hmot : (i : Int).tmod 16 = (r : Int) := by rw [Int.tmod_eq_emod_of_nonneg (by omega)]; exact hmod
      have lbk := blkS_len key (firstC nonce) (i + 1)
      clear hsn hke hxc hxb V0
      generalize hKS : ksB key (firstC nonce) i = ks at *
      have hxo := bits_xor_u8 tx ks hta hks
      have hxl := xor_lt256 hta hks
      obtain ⟨z, hz⟩ : ∃ z, tx ^^^ ks = z := ⟨_, rfl⟩
      rw [hz] at hxo hxl HSN
      have HKL := Lib.hid hkl
      have LBK := Lib.hid lbk
      have hS1 := atS_new (first := firstC nonce) (i := i)
      have hS2 := atS_more (first := firstC nonce) (i := i)
      have hS3 := blkS_next key (firstC nonce) i
      have hS4 := blkS_more (key := key) (first := firstC nonce) (i := i)
      have hat16 : (atS (firstC nonce) i).length = 16 := nextN_len LF.out _
      have hatb : Byt (atS (firstC nonce) i) := nextN_byt bf _
      have LB0 := blkS_len key (firstC nonce) i
      generalize hA0 : atS (firstC nonce) i = a0 at *
      generalize hA1 : atS (firstC nonce) (i + 1) = a1 at *
      generalize hB0 : blkS key (firstC nonce) i = b0 at *
      generalize hB1 : blkS key (firstC nonce) (i + 1) = b1 at *
      have HA1 := Lib.hid hA1
      have HB1 := Lib.hid hB1
      have HST := Lib.hid hst
      have HR := Lib.hid hr
      have S1 := Lib.hid hS1
      have S2 := Lib.hid hS2
      have S3 := Lib.hid hS3
      have S4 := Lib.hid hS4
      have LA := Lib.hid hat16
      have HLB := Lib.hid LB0
      clear hKS hz hkl lbk hS1 hS2 hS3 hS4 hA0 hA1 hB0 hB1 hst hr hat16 LB0
      by_cases hr0 : r = 0
      · have hi16 : i % 16 = 0 := by rw [← HR.out]; exact hr0
        have e1 := S1.out hi16
        have e3 := S3.out
        have hre : ((r : Int) == 0) = true := by rw [hr0]; rfl
        have lA1 : a1.length = 16 := by rw [e1]; exact nextC_len LA.out
        have bA1 : Byt a1 := by rw [e1]; exact nextC_byt hatb
        have hnx := rNext_any a0 hatb LA.out
        rw [← e1] at hnx
        have hen2 := fun W h => HEN.out W a1 h bA1 lA1
        have hen3 : ∀ W, IsB W kA kn kc key → Calls Tryz.prog 279 #[.slice kA kn kc, .agg (bts a1)] W fun e w' => e = .returned (.agg (bts b1)) ∧ Below W.heap.size W w' := by
          intro W h
          rw [e3]
          exact hen2 W h
        have HNX := Lib.hid hnx
        have HE3 := Lib.hid hen3
        have LA1 := Lib.hid lA1
        clear hnx hen2 hen3 e1 e3 lA1 hi16 hr0
        go_wp2_with (refine wpList_loadB (l := a0) (o := ⟨some 22, _, _, _, _, _⟩) rfl 365 (.tmp 7) rfl gc rfl (t := 365) ?_ Tryz.underlying365 (by rw [LA.out]; exact sz16) ?_; exact HST.out.cb)
        refine (HNX.out _).mono ?_
        rintro e wa ⟨rfl, hba⟩
        have HSA := Lib.hid (HST.out.call HST.out.below.size hba)
        clear hba HNX HST
        go_wp2_with (first
          | (refine wpList_storeN (l := a0) (o := ⟨none, .store _ (.tmp 7) (.tmp 23), _, _, _, _⟩) rfl 365 (.tmp 7) (.tmp 23) rfl gc rfl a1 rfl (t := 365) ?_ (by rw [LA1.out]; exact sz16) (by rw [LA.out, LA1.out]) ?_
             · exact HSA.out.cb
             intro wb hwb
             have HSB : Hid (RcSt w.heap.size gc w wb u8 a1 b0 ((cryptA key nonce text).take i)) := Lib.hid (by rw [hwb]; exact HSA.out.rowC a1)
             clear hwb)
          | (refine wpList_loadB (l := a1) (o := ⟨some 25, _, _, _, _, _⟩) rfl 365 (.tmp 7) rfl gc rfl (t := 365) ?_ Tryz.underlying365 (by rw [LA1.out]; exact sz16) ?_
             · exact HSB.out.cb))
        refine (HE3.out _ (IK.out.below HSB.out.below)).mono ?_
        rintro e wc ⟨rfl, hbc⟩
        have HSC := Lib.hid (HSB.out.call HSB.out.below.size hbc)
        clear hbc HE3 HSB HSA
        go_wp2_with (refine wpList_storeN (l := b0) (o := ⟨none, .store _ (.tmp 9) (.tmp 26), _, _, _, _⟩) rfl 365 (.tmp 9) (.tmp 26) rfl (gc + 1) rfl b1 rfl (t := 365) ?_ (by rw [LBK.out]; exact sz16) (by rw [HLB.out, LBK.out]) ?_
                     · exact HSC.out.bb
                     intro wd hwd
                     have HQ : Hid (RcSt w.heap.size gc w wd u8 a1 b1 ((cryptA key nonce text).take i)) := Lib.hid (by rw [hwd]; exact HSC.out.rowB b1)
                     clear hwd)
        have cA : wd.cell? (x.add i) = some (.int .u8 (tx : Int)) := (HQ.out.below.cell (by rw [add_block]; exact XB.out)).trans XC.out
        have cB : wd.cell? ⟨gc + 1, r, none⟩ = some (.int .u8 (ks : Int)) := by rw [HKL.out]; exact HQ.out.bb.cell (by rw [LBK.out]; exact hr16)
        have tkl : ((cryptA key nonce text).take i).length = i := by rw [List.length_take, cryptA_len, LT.out]; omega
        have HKA : Hid (∀ w', KeepA wd u8 ((cryptA key nonce text).take i).length w' → w'.cell? (x.add i) = some (.int .u8 (tx : Int))) := Lib.hid (fun w' h => h _ _ cA (fun g hg e => by
          have h1 := (HQ.out.own.lt g hg).1
          rw [add_block] at e
          have h2 := XB.out
          omega))
        have HKB : Hid (∀ w', KeepA wd u8 ((cryptA key nonce text).take i).length w' → w'.cell? ⟨gc + 1, r, none⟩ = some (.int .u8 (ks : Int))) := Lib.hid (fun w' h => h _ _ cB (fun g hg e => absurd e.symm (HQ.out.a2 g hg)))
        have TKL := Lib.hid tkl
        clear cA cB tkl
        refine wp_take_append wd 10 (.tmp 27) (.tmp 36) (t := 22) (d1 := 37) (d2 := 38) (d3 := 8) rfl (by kernel_rfl) (by kernel_rfl) (by kernel_rfl) (fun _ _ _ d _ h => by cases d <;> exact h) rfl rfl rfl rfl rfl rfl rfl rfl rfl rfl rfl rfl (by kernel_rfl) (by kernel_rfl) (by kernel_rfl) (by kernel_rfl) Tryz.underlying22 hi0 hz0 hz1 hz2 rfl _ _ HQ.out.own (by rw [TKL.out]; have := HT.out; omega) HQ.out.below.size z hxl (fun a w' hx => build1 (.tmp 36) _ _ _ _ z a w' hx) ?_
        simp only [List.take_succ_cons, List.take_zero]
        refine takesB_step (v := ?avx0) rfl ?ahx0 ?akx0
        case ahx0 => (intro w' hw'; have hka := HKA.out w' hw'; have hkb := HKB.out w' hw'; go_simp; rfl)
        refine takesB_step (v := ?avx1) rfl ?ahx1 ?akx1
        case ahx1 => (intro w' hw'; have hka := HKA.out w' hw'; have hkb := HKB.out w' hw'; go_simp; rfl)
        refine takesB_step (v := ?avx2) rfl ?ahx2 ?akx2
        case ahx2 => (intro w' hw'; have hka := HKA.out w' hw'; have hkb := HKB.out w' hw'; go_simp; rfl)
        refine takesB_step (v := ?avx3) rfl ?ahx3 ?akx3
        case ahx3 => (intro w' hw'; have hka := HKA.out w' hw'; have hkb := HKB.out w' hw'; go_simp; rfl)
        refine takesB_step (v := ?avx4) rfl ?ahx4 ?akx4
        case ahx4 => (intro w' hw'; have hka := HKA.out w' hw'; have hkb := HKB.out w' hw'; go_simp; rfl)
        refine takesB_step (v := ?avx5) rfl ?ahx5 ?akx5
        case ahx5 => (intro w' hw'; have hka := HKA.out w' hw'; have hkb := HKB.out w' hw'; go_simp; rfl)
        refine takesB_step (v := ?avx6) rfl ?ahx6 ?akx6
        case ahx6 => (intro w' hw'; have hka := HKA.out w' hw'; have hkb := HKB.out w' hw'; go_simp; rfl)
        refine takesB_step (v := ?avx7) rfl ?ahx7 ?akx7
        case ahx7 => (intro w' hw'; have hka := HKA.out w' hw'; have hkb := HKB.out w' hw'; go_simp; rfl)
        refine takesB_step (v := ?avx8) rfl ?ahx8 ?akx8
        case ahx8 => (intro w' hw'; have hka := HKA.out w' hw'; have hkb := HKB.out w' hw'; go_simp; rfl)
        refine takesB_step (v := ?avx9) rfl ?ahx9 ?akx9
        case ahx9 => (intro w' hw'; have hka := HKA.out w' hw'; have hkb := HKB.out w' hw'; go_simp; rfl)
        simp only [Act.put, List.setIfInBounds_toArray, List.set_cons_zero, List.set_cons_succ]
        refine takesB_nil ⟨rfl, rfl, rfl, ?_⟩
        simp only [List.setIfInBounds_toArray, List.set_cons_zero, List.set_cons_succ]
        intro v1 w9 hown2 hb2 hg2 hat2
        refine ⟨rfl, ?_⟩
        have H1 : Hid (RcSt w.heap.size gc w w9 v1 a1 b1 ((cryptA key nonce text).take (i + 1))) := Lib.hid (by
          have l1 := HQ.out.cb.lt
          have l2 := HQ.out.bb.lt
          exact ⟨(HQ.out.cb.alloc _).kept hg2 HQ.out.a1.ne, (HQ.out.bb.alloc _).kept hg2 HQ.out.a2.ne, by rw [HSN.out]; exact hown2, HQ.out.below.trans hb2, HQ.out.a1.next hat2 (by omega), HQ.out.a2.next hat2 (by omega), HQ.out.lo⟩)
        clear hown2 hb2 hg2 hat2
        go_wp2_with fail
        go_roundw
        case rel => exact ⟨i + 1, by have := HLT.out; omega, by go_num, by rw [HA1.out, HB1.out]; exact H1.out⟩
        case measure => (have := HLT.out; simp [intOf]; omega)
      · have hi16 : ¬ i % 16 = 0 := by rw [← HR.out]; exact hr0
        have hre : ((r : Int) == 0) = false := by rw [beq_eq_false_iff_ne]; omega
        have HQ : Hid (RcSt w.heap.size gc w wr u8 a1 b1 ((cryptA key nonce text).take i)) := Lib.hid (by rw [S2.out hi16, S4.out hi16]; exact HST.out)
        clear hi16 hr0 HST
        go_wp2_with fail
        have cA : wr.cell? (x.add i) = some (.int .u8 (tx : Int)) := (HQ.out.below.cell (by rw [add_block]; exact XB.out)).trans XC.out
        have cB : wr.cell? ⟨gc + 1, r, none⟩ = some (.int .u8 (ks : Int)) := by rw [HKL.out]; exact HQ.out.bb.cell (by rw [LBK.out]; exact hr16)
        have tkl : ((cryptA key nonce text).take i).length = i := by rw [List.length_take, cryptA_len, LT.out]; omega
        have HKA : Hid (∀ w', KeepA wr u8 ((cryptA key nonce text).take i).length w' → w'.cell? (x.add i) = some (.int .u8 (tx : Int))) := Lib.hid (fun w' h => h _ _ cA (fun g hg e => by
          have h1 := (HQ.out.own.lt g hg).1
          rw [add_block] at e
          have h2 := XB.out
          omega))
        have HKB : Hid (∀ w', KeepA wr u8 ((cryptA key nonce text).take i).length w' → w'.cell? ⟨gc + 1, r, none⟩ = some (.int .u8 (ks : Int))) := Lib.hid (fun w' h => h _ _ cB (fun g hg e => absurd e.symm (HQ.out.a2 g hg)))
        have TKL := Lib.hid tkl
        clear cA cB tkl
        refine wp_take_append wr 10 (.tmp 27) (.tmp 36) (t := 22) (d1 := 37) (d2 := 38) (d3 := 8) rfl (by kernel_rfl) (by kernel_rfl) (by kernel_rfl) (fun _ _ _ d _ h => by cases d <;> exact h) rfl rfl rfl rfl rfl rfl rfl rfl rfl rfl rfl rfl (by kernel_rfl) (by kernel_rfl) (by kernel_rfl) (by kernel_rfl) Tryz.underlying22 hi0 hz0 hz1 hz2 rfl _ _ HQ.out.own (by rw [TKL.out]; have := HT.out; omega) HQ.out.below.size z hxl (fun a w' hx => build1 (.tmp 36) _ _ _ _ z a w' hx) ?_
        simp only [List.take_succ_cons, List.take_zero]
        refine takesB_step (v := ?avy0) rfl ?ahy0 ?aky0
        case ahy0 => (intro w' hw'; have hka := HKA.out w' hw'; have hkb := HKB.out w' hw'; go_simp; rfl)
        refine takesB_step (v := ?avy1) rfl ?ahy1 ?aky1
        case ahy1 => (intro w' hw'; have hka := HKA.out w' hw'; have hkb := HKB.out w' hw'; go_simp; rfl)
        refine takesB_step (v := ?avy2) rfl ?ahy2 ?aky2
        case ahy2 => (intro w' hw'; have hka := HKA.out w' hw'; have hkb := HKB.out w' hw'; go_simp; rfl)
        refine takesB_step (v := ?avy3) rfl ?ahy3 ?aky3
        case ahy3 => (intro w' hw'; have hka := HKA.out w' hw'; have hkb := HKB.out w' hw'; go_simp; rfl)
        refine takesB_step (v := ?avy4) rfl ?ahy4 ?aky4
        case ahy4 => (intro w' hw'; have hka := HKA.out w' hw'; have hkb := HKB.out w' hw'; go_simp; rfl)
        refine takesB_step (v := ?avy5) rfl ?ahy5 ?aky5
        case ahy5 => (intro w' hw'; have hka := HKA.out w' hw'; have hkb := HKB.out w' hw'; go_simp; rfl)
        refine takesB_step (v := ?avy6) rfl ?ahy6 ?aky6
        case ahy6 => (intro w' hw'; have hka := HKA.out w' hw'; have hkb := HKB.out w' hw'; go_simp; rfl)
        refine takesB_step (v := ?avy7) rfl ?ahy7 ?aky7
        case ahy7 => (intro w' hw'; have hka := HKA.out w' hw'; have hkb := HKB.out w' hw'; go_simp; rfl)
        refine takesB_step (v := ?avy8) rfl ?ahy8 ?aky8
        case ahy8 => (intro w' hw'; have hka := HKA.out w' hw'; have hkb := HKB.out w' hw'; go_simp; rfl)
        refine takesB_step (v := ?avy9) rfl ?ahy9 ?aky9
        case ahy9 => (intro w' hw'; have hka := HKA.out w' hw'; have hkb := HKB.out w' hw'; go_simp; rfl)
        simp only [Act.put, List.setIfInBounds_toArray, List.set_cons_zero, List.set_cons_succ]
        refine takesB_nil ⟨rfl, rfl, rfl, ?_⟩
        simp only [List.setIfInBounds_toArray, List.set_cons_zero, List.set_cons_succ]
        intro v1 w9 hown2 hb2 hg2 hat2
        refine ⟨rfl, ?_⟩
        have H1 : Hid (RcSt w.heap.size gc w w9 v1 a1 b1 ((cryptA key nonce text).take (i + 1))) := Lib.hid (by
          have l1 := HQ.out.cb.lt
          have l2 := HQ.out.bb.lt
          exact ⟨(HQ.out.cb.alloc _).kept hg2 HQ.out.a1.ne, (HQ.out.bb.alloc _).kept hg2 HQ.out.a2.ne, by rw [HSN.out]; exact hown2, HQ.out.below.trans hb2, HQ.out.a1.next hat2 (by omega), HQ.out.a2.next hat2 (by omega), HQ.out.lo⟩)
        clear hown2 hb2 hg2 hat2
        go_wp2_with fail
        go_roundw
        case rel => exact ⟨i + 1, by have := HLT.out; omega, by go_num, by rw [HA1.out, HB1.out]; exact H1.out⟩
        case measure => (have := HLT.out; simp [intOf]; omega)
    · obtain rfl : i = tn := by omega
      have hall : (cryptA key nonce text).take i = cryptA key nonce text := List.take_of_length_le (by rw [cryptA_len, LT.out]; exact Nat.le_refl _)
      rw [hall] at hst
      have HST := Lib.hid hst
      clear hst hall V0
      go_wp2_with fail
      go_ret
      exact ⟨_, rfl, HST.out.own, HST.out.below⟩
end Go.Proofs.YtakgebbeknfplaaGreat
