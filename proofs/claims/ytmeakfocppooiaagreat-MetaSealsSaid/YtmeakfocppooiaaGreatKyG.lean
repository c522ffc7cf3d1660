/-
  META PAGES: MetaSeals: the walk.
-/
import Derived.Test.YtmeakfocppooiaaGreatMlA
import Derived.Test.YtmeakfocppooiaaGreatKyB
import Derived.Test.YtmeakfocppooiaaGreatKyF
import Derived.Test.YtmeakfocppooiaaGreatLgC
namespace Go.Proofs.YtmeakfocppooiaaGreat
open Go.RowKit Go.ChangeShapes Go.WideShapes
set_option linter.unusedVariables false

theorem RkB.grownC {w w' : World} {B g lg : Nat} {v : Value} {vs : List ((Nat × Nat) × Value)} {l : RgL} {T : TypeId} {cs : Array Value} (h : RkB w B g v vs l) (hl : CbB w lg T cs) (hT : T ≠ 60) (hT2 : T ≠ 131) (hT3 : T ≠ 5) (hg : w.grownBy w' (some lg)) : RkB w' B g v vs l := by
  have hf := Fr.grown hg
  have hgl : g ≠ lg := fun e => by
    have h1 := h.box
    unfold CbB at h1 hl
    rw [e, hl] at h1
    injection h1 with h1
    injection h1 with h1 h2
    exact hT h2
  exact ⟨h.box.fr hf (fun e => hgl (by injection e with e; exact e.symm)), row_fr h.own hf (fun k hk e => by
    injection e with e
    subst e
    exact row_ne h.own hl hT2 hk), h.vals.imp fun z k hz => hz.fr hf (fun q hq e => own_ne' hT3 hl hz (by rw [hq, e])), Nat.le_trans h.low hg.size, h.ne⟩
set_option maxRecDepth 100000 in
set_option maxHeartbeats 4000000 in
theorem mseals_any (A : Option Addr) (n c : Nat) (ks : List KArg) (m : Mp) (w : World) (hk : KsB w A n c ks) (hm : m.Ok) :
    Calls Tryz.prog 3 #[.slice A n c, .agg (mpv m)] w fun e w' => e = .returned (.bool true) ∧ Below w.heap.size w w' := by
  have HK := Lib.hid known18_any
  have b0 : Below w.heap.size w (w.alloc (.cells (mpv m) 31)) := (Below.refl _ _).alloc (Nat.le_refl _) _
  have M0 := Lib.hid (MpB.new w m)
  have HR := Lib.hid (rings_any A n c ks _ (hk.below b0))
  have B0 := Lib.hid b0
  have HM := Lib.hid hm
  have HZ := Lib.hid b0.size
  clear hk hm b0
  rw [mpv_lit] at HR B0 HZ ⊢
  go_enter Tryz.func3, Tryz.ntmps3
  go_wp2_with fail
  refine HR.out.mono ?_
  rintro e w1 ⟨hb, rfl | ⟨g, mm, g2, l, rfl, ⟨hr, rv, rvs, hrk⟩, hl⟩⟩
  · have B1 := Lib.hid (below_tr B0.out hb B0.out.size)
    clear hb
    go_wp2_with fail
    refine (HK.out _).mono ?_
    rintro e w6 ⟨rfl, hb⟩
    have B6 := Lib.hid (below_tr B1.out hb B1.out.size)
    clear hb
    go_wp2_with fail
    go_ret
    exact ⟨rfl, B6.out⟩
  have B1 := Lib.hid (below_tr B0.out hb B0.out.size)
  have M1 := Lib.hid (M0.out.ab hb)
  have R1 := Lib.hid hr
  have K1 := Lib.hid hrk
  have HL := Lib.hid hl
  clear hb hr hrk hl HR
  go_wp2_with fail
  refine (newLog_any _).mono ?_
  rintro e w2 ⟨lg, rfl, hlg, hc, hb⟩
  have G2 := Lib.hid hc
  have M2 := Lib.hid (M1.out.ab hb)
  have R2 := Lib.hid (R1.out.ab hb)
  have K2 := Lib.hid (K1.out.ab hb)
  have B2 := Lib.hid (below_tr B1.out hb B1.out.size)
  have LG : Hid (w.heap.size ≤ lg) := Lib.hid (Nat.le_trans B1.out.size hlg)
  have ML : Hid (w.heap.size ≠ lg) := Lib.hid (by have := M1.out.lt; omega)
  obtain ⟨x0, x1, x2, x3, x4, x5, x6⟩ := M2.out.cells
  clear hc hb hlg M1 R1 K1 B1
  go_wp2_with fail
  have HS := mSeal_any _ g mm lg l m w2 R2.out G2.out HM.out
  have HP := Lib.hid fun B W h => rSeal_any B g2 rv rvs l m W h (by have := HL.out; omega) HM.out
  rw [mpv_lit] at HS HP
  generalize mSealP l m = S at *
  obtain ⟨bk, er⟩ := S
  simp only at HS HP
  refine HS.mono ?_
  rintro e w3 ⟨v3, rfl, hv, hgr, all, hlog, hlen, hblk⟩
  have M3 := Lib.hid (M2.out.grown hgr ML.out)
  have K3 := Lib.hid (K2.out.grownC G2.out (by decide) (by decide) (by decide) hgr)
  have B3 := Lib.hid (below_grown B2.out hgr LG.out B2.out.size)
  have V3 := Lib.hid hv
  have L3 := Lib.hid hlog
  have LN := Lib.hid hlen
  have BK := Lib.hid hblk
  obtain ⟨y0, y1, y2, y3, y4, y5, y6⟩ := M3.out.cells
  clear hv hgr hlog hlen hblk HS x0 x1 x2 x3 x4 x5 x6 M2 R2 K2 G2
  obtain ⟨A3, c3, rfl, _, _⟩ := V3.out.shape
  go_wp2_with fail
  refine (HP.out _ _ K3.out).mono ?_
  rintro e w4 ⟨v4, rfl, hv, hb⟩
  obtain ⟨A4, c4, rfl, _, _⟩ := hv.shape
  have I4 := Lib.hid ((V3.out.isB rfl).ab hb)
  have J4 := Lib.hid (hv.isB rfl)
  have L4 := Lib.hid (L3.out.ab hb)
  have B4 := Lib.hid (below_tr B3.out hb B3.out.size)
  have YB : Hid (∀ s ∈ all, Byt s.blk) := Lib.hid fun s hs => by rw [BK.out s hs]; exact V3.out.byt
  have HQ := Lib.hid fun W h1 h2 => same_yes A3 A4 bk.length bk.length c3 c4 bk bk W h1 h2 rfl
  have CN := Lib.hid fun B W h => count_any B lg all W h
  have HH := Lib.hid fun B W h1 h2 => has_any B lg all A3 bk.length c3 bk W h1 (by rw [LN.out]; unfold oneIf; split <;> omega) h2 YB.out
  clear hv hb y0 y1 y2 y3 y4 y5 y6 M3 K3 B3 V3 L3 YB
  by_cases her : er = 0
  · have hl1 : all.length = 1 := by rw [LN.out, her]; rfl
    have ha : all.any (fun s => decide (s.blk = bk)) = true := by
      obtain ⟨s, rfl⟩ := List.length_eq_one_iff.1 hl1
      simp [BK.out s (by simp)]
    rw [hl1] at CN
    rw [ha] at HH
    have t1 : ((er : Int) == 0) = true := by simp [her]
    clear her hl1 ha LN BK
    go_wp2_with fail
    refine (HQ.out _ I4.out J4.out).mono ?_
    rintro e w5 ⟨rfl, rfl⟩
    go_wp2_with fail
    refine (CN.out _ _ L4.out).mono ?_
    rintro e w5 ⟨rfl, rfl⟩
    go_wp2_with fail
    refine (HH.out _ _ L4.out I4.out).mono ?_
    rintro e w5 ⟨rfl, hb⟩
    have B5 := Lib.hid (below_tr B4.out hb B4.out.size)
    clear hb
    go_wp2_with fail
    refine (HK.out _).mono ?_
    rintro e w6 ⟨rfl, hb⟩
    have B6 := Lib.hid (below_tr B5.out hb B5.out.size)
    clear hb
    go_wp2_with fail
    go_ret
    exact ⟨rfl, B6.out⟩
  · have hl1 : all.length = 0 := by rw [LN.out]; exact if_neg her
    have ha : all.any (fun s => decide (s.blk = bk)) = false := by
      rw [List.length_eq_zero_iff.1 hl1]; rfl
    rw [hl1] at CN
    rw [ha] at HH
    have t1 : ((er : Int) == 0) = false := by simp [her]
    clear her hl1 ha LN BK
    go_wp2_with fail
    refine (HQ.out _ I4.out J4.out).mono ?_
    rintro e w5 ⟨rfl, rfl⟩
    go_wp2_with fail
    refine (CN.out _ _ L4.out).mono ?_
    rintro e w5 ⟨rfl, rfl⟩
    go_wp2_with fail
    refine (HH.out _ _ L4.out I4.out).mono ?_
    rintro e w5 ⟨rfl, hb⟩
    have B5 := Lib.hid (below_tr B4.out hb B4.out.size)
    clear hb
    go_wp2_with fail
    refine (HK.out _).mono ?_
    rintro e w6 ⟨rfl, hb⟩
    have B6 := Lib.hid (below_tr B5.out hb B5.out.size)
    clear hb
    go_wp2_with fail
    go_ret
    exact ⟨rfl, B6.out⟩
set_option maxRecDepth 100000 in
theorem mseals_walk (v : Value) (u : Value) (w : World) (hk : ∃ base, Value.okWide Tryz.prog w .any base 22 v) {H : Type} {enc : TypeId × Value → H} {d : DataW H} {p : List MemPlace} (hd : DataW.Trod enc Tryz.prog w 0 (fun _ => true) true 22 v d p) (hp : ∀ x ∈ p, x.block < w.heap.size)
    (hk2 : ∃ base, Value.okWide Tryz.prog w .any base 31 u) {d2 : DataW H} {p2 : List MemPlace} (_ : DataW.Trod enc Tryz.prog w 0 (fun _ => true) true 31 u d2 p2) (_ : ∀ x ∈ p2, x.block < w.heap.size) :
    Calls Tryz.prog 3 #[v, u] w fun e w' => e = .returned (.bool true) ∧ Below w.heap.size w w' := by
  obtain ⟨base, hk⟩ := hk
  obtain ⟨base2, hk2⟩ := hk2
  obtain ⟨A, n, c, ks, rfl, hks⟩ := open_keys hk hd hp
  obtain ⟨m, rfl, hm⟩ := open_meta hk2
  exact mseals_any A n c ks m w hks hm
end Go.Proofs.YtmeakfocppooiaaGreat
