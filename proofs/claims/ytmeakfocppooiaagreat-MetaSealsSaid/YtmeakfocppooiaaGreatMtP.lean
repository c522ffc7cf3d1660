/-
  META PAGES: walks of Seal and Open.
  META PAGES: plain laws: there and back, just one form.
-/
import Derived.Test.YtmeakfocppooiaaGreatMtE
import Derived.Test.YtmeakfocppooiaaGreatLgA
import Derived.Test.YtmeakfocppooiaaGreatSeJ
namespace Go.Proofs.YtmeakfocppooiaaGreat
open Go.RowKit
set_option linter.unusedVariables false

def oneIf (e : Nat) : Nat := if e = 0 then 1 else 0
def lgOf (s : Sl) (e : Nat) : List Sl := if e = 0 then [s] else []
theorem logSeal0_any (g : Nat) (kA tA : Option Addr) (kn kc tn tc : Nat) (l : Lb) (key text : List Nat) (w : World) (hg : CbB w g 122 #[.slice none 0 0]) (hl : l.Ok) (ik : IsB w kA kn kc key) (it : IsB w tA tn tc text) (h31 : (sealP key l text).2 ≤ 255) :
    Calls Tryz.prog 54 #[.pointer (some ⟨g, 0, none⟩), .slice kA kn kc, .agg (lab l), .slice tA tn tc] w fun e w' => ∃ v, e = .returned (.tuple #[v, .int .i64 ((sealP key l text).2 : Int)]) ∧ OwB w' w.heap.size v (sealP key l text).1 ∧ w.grownBy w' (some g) ∧
      LgB w' w.heap.size g (lgOf ⟨l, key, text, (sealP key l text).1⟩ (sealP key l text).2) := by
  unfold lgOf
  by_cases h0 : (sealP key l text).2 = 0
  · have hs : sealP key l text = ((sealP key l text).1, 0) := Prod.ext rfl h0
    rw [if_pos h0]
    refine (logSeal_first g kA tA kn kc tn tc l key text _ w hg hl ik it hs).mono ?_
    rintro e w' ⟨v, he, h1, h2, h3⟩
    exact ⟨v, by rw [h0]; exact he, h1, h2, h3⟩
  · rw [if_neg h0]
    refine (logSeal_no g kA tA kn kc tn tc l key text w hl ik it h0 h31).mono ?_
    rintro e w' ⟨v, he, h1, h2⟩
    exact ⟨v, he, h1, grown_of h2 _, LgB.empty (hg.ab h2) h2.size⟩
/-- what comes of a meta page that is sealed -/
def mSealP (l : RgL) (m : Mp) : List Nat × Nat := bif rightB m then (match getR (0, m.gn) l with | some k => sealP k (labM m) (mbytes m) | none => ([], 7)) else ([], 2)
theorem sealM_ok {k : List Nat} (hk : KeyOk k) (m : Mp) : SOk k (labM m) := ⟨hk, by simp [labM], by simp [labM]⟩
theorem sealM {k : List Nat} (hk : KeyOk k) (m : Mp) : sealP k (labM m) (mbytes m) = (headL (labM m) ++ sealA k (nonceL (labM m)) (aadL (labM m)) (mbytes m), 0) := sealP_ok (sealM_ok hk m) (mbytes_len m)
set_option maxRecDepth 100000 in
set_option maxHeartbeats 4000000 in
theorem mSeal_any (B g mm lg : Nat) (l : RgL) (m : Mp) (w : World) (hr : RgB w B g mm l) (hg : CbB w lg 122 #[.slice none 0 0]) (hm : m.Ok) :
    Calls Tryz.prog 12 #[.pointer (some ⟨g, 0, none⟩), .pointer (some ⟨lg, 0, none⟩), .agg (mpv m)] w fun e w' => ∃ v, e = .returned (.tuple #[v, .int .i64 ((mSealP l m).2 : Int)]) ∧ OwB w' w.heap.size v (mSealP l m).1 ∧ w.grownBy w' (some lg) ∧ ∃ all, LgB w' w.heap.size lg all ∧ all.length = oneIf (mSealP l m).2 ∧ ∀ s ∈ all, s.blk = (mSealP l m).1 := by
  have M0 := Lib.hid (MpB.new w m)
  have B0 : Hid (Below w.heap.size w (w.alloc (.cells (mpv m) 31))) := Lib.hid ((Below.refl _ _).alloc (Nat.le_refl _) _)
  have HE := Lib.hid fun W => encode_any m W hm
  have HK := Lib.hid fun W h => ringKey_any B g mm 0 m.gn l W h (by decide) hm.gn
  have HL := Lib.hid fun W => labelOf_any m W
  have LO := Lib.hid (labM_ok hm)
  have HR := Lib.hid hr
  have GG := Lib.hid hg
  have ML := Lib.hid (mbytes_len m)
  have HV : Hid (mpv m = #[.int .u64 (m.cm : Int), .int .u32 (m.pg : Int), .int .u64 (m.rc : Int), .int .u16 (m.rg : Int), .int .u8 (m.lv : Int), .int .u16 (m.gn : Int), .int .u32 (m.tn : Int)]) := Lib.hid rfl
  unfold mSealP encP at *
  cases hrt : rightB m
  · simp only [cond_false]
    rw [hrt] at HE
    simp only [cond_false] at HE
    rw [HV.out] at HE ⊢
    rw [HV.out] at B0
    clear hr hg hm hrt HK HL M0
    go_enter Tryz.func12, Tryz.ntmps12
    go_wp2_with fail
    refine (HE.out _).mono ?_
    rintro e w1 ⟨v, rfl, hv, hb⟩
    have B1 := Lib.hid (below_tr B0.out hb B0.out.size)
    have G1 := Lib.hid (GG.out.ab B1.out)
    clear hv hb
    go_wp2_with fail
    go_ret2
    exact ⟨_, rfl, OwB.nil _ _, grown_of B1.out _, [], LgB.empty G1.out B1.out.size, rfl, fun s hs => by cases hs⟩
  · simp only [cond_true]
    rw [hrt] at HE
    simp only [cond_true] at HE
    unfold keyP at HK
    cases hk : getR (0, m.gn) l with
    | none =>
      rw [hk] at HK
      simp only at HK ⊢
      rw [HV.out] at HE ⊢
      rw [HV.out] at B0
      clear hr hg hm hrt HL hk
      go_enter Tryz.func12, Tryz.ntmps12
      go_wp2_with fail
      refine (HE.out _).mono ?_
      rintro e w1 ⟨v, rfl, hv, hb⟩
      have B1 := Lib.hid (below_tr B0.out hb B0.out.size)
      obtain ⟨c0, c1, c2, c3, c4, c5, c6⟩ := (M0.out.ab hb).cells
      clear hv hb
      go_wp2_with fail
      refine (HK.out _ (HR.out.ab B1.out)).mono ?_
      rintro e w2 ⟨v2, rfl, hv, hb⟩
      have B2 := Lib.hid (below_tr B1.out hb B1.out.size)
      have G2 := Lib.hid (GG.out.ab B2.out)
      clear hv hb
      go_wp2_with fail
      go_ret2
      exact ⟨_, rfl, OwB.nil _ _, grown_of B2.out _, [], LgB.empty G2.out B2.out.size, rfl, fun s hs => by cases hs⟩
    | some k =>
      have hkk := hr.ne _ (getR_mem hk)
      have hKO : Hid (KeyOk k) := Lib.hid hkk
      rw [hk] at HK
      simp only at HK ⊢
      have HS := sealM hkk m
      have HLS := Lib.hid fun kA kc W h1 h2 tA tc h3 => logSeal0_any lg kA tA k.length kc (mbytes m).length tc (labM m) k (mbytes m) W h1 LO.out h2 h3 (by rw [HS]; exact Nat.zero_le _)
      rw [HS] at HLS ⊢
      generalize (headL (labM m) ++ sealA k (nonceL (labM m)) (aadL (labM m)) (mbytes m)) = R at *
      simp only [lgOf, if_true] at HLS ⊢
      rw [HV.out] at HE HL M0 ⊢
      rw [HV.out] at B0
      clear hr hg hm hrt hk HS hkk
      go_enter Tryz.func12, Tryz.ntmps12
      go_wp2_with fail
      refine (HE.out _).mono ?_
      rintro e w1 ⟨v, rfl, hv, hb⟩
      obtain ⟨A1, c1', rfl, _, _⟩ := hv.shape
      have I1 := Lib.hid (hv.isB rfl)
      have B1 := Lib.hid (below_tr B0.out hb B0.out.size)
      have M1 := Lib.hid (M0.out.ab hb)
      obtain ⟨c0, c1, c2, c3, c4, c5, c6⟩ := M1.out.cells
      clear hv hb M0
      go_wp2_with fail
      refine (HK.out _ (HR.out.ab B1.out)).mono ?_
      rintro e w2 ⟨v2, rfl, hv, hb⟩
      obtain ⟨A2, c2', rfl, _, _⟩ := hv.shape
      have I2 := Lib.hid (hv.isB rfl)
      have J2 := Lib.hid (I1.out.ab hb)
      have B2 := Lib.hid (below_tr B1.out hb B1.out.size)
      have M2 := Lib.hid (M1.out.ab hb)
      clear hv hb M1 I1 B1 c0 c1 c2 c3 c4 c5 c6
      obtain ⟨c0, c1, c2, c3, c4, c5, c6⟩ := M2.out.cells
      go_wp2_with fail
      refine (HL.out _).mono ?_
      rintro e w3 ⟨rfl, hb⟩
      have I3 := Lib.hid (I2.out.ab hb)
      have J3 := Lib.hid (J2.out.ab hb)
      have B3 := Lib.hid (below_tr B2.out hb B2.out.size)
      have G3 := Lib.hid (GG.out.ab B3.out)
      clear hb I2 J2 B2 M2 c0 c1 c2 c3 c4 c5 c6
      go_wp2_with fail
      refine (HLS.out _ _ _ G3.out I3.out _ _ J3.out).mono ?_
      rintro e w4 ⟨v4, rfl, hv, hgr, hlg⟩
      have V4 := Lib.hid (hv.lower B3.out.size)
      have G4 := Lib.hid (grown_tr (grown_of B3.out (some lg)) hgr)
      have L4 := Lib.hid hlg
      have S4 := Lib.hid B3.out.size
      clear hv hgr hlg
      go_wp2_with fail
      go_ret2
      exact ⟨_, rfl, V4.out, G4.out, _, L4.out.lower S4.out, rfl, fun s hs => by rw [List.mem_singleton] at hs; rw [hs]⟩
/-- what comes of a block that is opened out of a slot: the meta page, or a refusal -/
structure OpnR where
  m : Mp
  err : Nat
deriving DecidableEq
def labT (s : Nat) (t : ToldR) : Lb := ⟨0, 4, 0, t.cm % 2, t.cm, t.gn⟩
def mOpenB (l : RgL) (t : ToldR) (b : List Nat) : OpnR :=
  match getR (0, t.gn) l with
  | none => ⟨mp0, 7⟩
  | some k => if (openP k (labT 0 t) b).2 = 0 then
      (if (decP (openP k (labT 0 t) b).1).err = 0 ∧ (decP (openP k (labT 0 t) b).1).m.cm = t.cm ∧ (decP (openP k (labT 0 t) b).1).m.gn = t.gn then ⟨(decP (openP k (labT 0 t) b).1).m, 0⟩ else ⟨mp0, 5⟩)
    else ⟨mp0, (openP k (labT 0 t) b).2⟩
def headM (sl : Int) (t : ToldR) : Prop := t.err = 0 ∧ t.k = 4 ∧ t.lv = 0 ∧ ((t.cm % 2 : Nat) : Int) = sl
instance (sl : Int) (t : ToldR) : Decidable (headM sl t) := by unfold headM; infer_instance
def mOpenP (l : RgL) (sl : Int) (b : List Nat) : OpnR :=
  if (sl = 0 ∨ sl = 1) ∧ b.length = 256 then (if headM sl (toldP b) then mOpenB l (toldP b) b else ⟨mp0, 100⟩) else ⟨mp0, 2⟩
def opnV (r : OpnR) : Value := .tuple #[.agg (mpv r.m), .int .i64 (r.err : Int)]
set_option maxRecDepth 100000 in
theorem opn_results (tmps : Array Value) (g6 : Nat) (W : World) (m : Mp) (err : Nat) (h6 : tmps[6]?.getD undef = .pointer (some ⟨g6, 0, none⟩)) (h7 : tmps[7]?.getD undef = .int .i64 (err : Int))
    (hm : MpB W g6 m) : (results Tryz.f51 tmps).run Tryz.prog W = .ok (opnV ⟨m, err⟩) W := by
  obtain ⟨c0, c1, c2, c3, c4, c5, c6⟩ := hm.cells
  simp [results, Tryz.results51, h6, h7, go_sem, c0, c1, c2, c3, c4, c5, c6, opnV, mpv]
set_option maxRecDepth 100000 in
set_option maxHeartbeats 2000000 in
theorem mOpen_arg (g : Nat) (sl : Int) (A : Option Addr) (n c : Nat) (w : World) (h : ¬ ((sl = 0 ∨ sl = 1) ∧ n = 256)) :
    Calls Tryz.prog 51 #[.pointer (some ⟨g, 0, none⟩), .int .i64 sl, .slice A n c] w fun e w' => e = .returned (opnV ⟨mp0, 2⟩) ∧ Below w.heap.size w w' := by
  have hc : (sl < 0 ∧ decide (sl < 0) = true) ∨ (decide (sl < 0) = false ∧ decide (1 < sl) = true) ∨ (decide (sl < 0) = false ∧ decide (1 < sl) = false ∧ ((n : Int) != 256) = true) := by
    by_cases h1 : sl < 0
    · exact .inl ⟨h1, decide_eq_true h1⟩
    · by_cases h2 : 1 < sl
      · exact .inr (.inl ⟨decide_eq_false h1, decide_eq_true h2⟩)
      · refine .inr (.inr ⟨decide_eq_false h1, decide_eq_false h2, ?_⟩)
        have : n ≠ 256 := fun e => h ⟨by omega, e⟩
        simp
        omega
  clear h
  have Q0 : Hid (CbB (w.alloc (.cells (mpv mp0) 31)) w.heap.size 31 (mpv mp0)) := Lib.hid (CbB.new _ _ _)
  have B0 : Hid (Below w.heap.size w (w.alloc (.cells (mpv mp0) 31))) := Lib.hid ((Below.refl _ _).alloc (Nat.le_refl _) _)
  rcases hc with ⟨_, h1⟩ | ⟨h1, h2⟩ | ⟨h1, h2, h3⟩
  all_goals
    go_enter Tryz.func51, Tryz.ntmps51
    go_wp2_with fail
    exact bodyPost_ret (opn_results _ w.heap.size _ mp0 2 rfl rfl Q0.out) rfl ⟨rfl, B0.out⟩
set_option maxRecDepth 100000 in
set_option maxHeartbeats 2000000 in
theorem mOpen_nil (sl : Int) (A : Option Addr) (n c : Nat) (w : World) :
    Calls Tryz.prog 51 #[.pointer none, .int .i64 sl, .slice A n c] w fun e w' => e = .returned (opnV ⟨mp0, 1⟩) ∧ Below w.heap.size w w' := by
  have Q0 : Hid (CbB (w.alloc (.cells (mpv mp0) 31)) w.heap.size 31 (mpv mp0)) := Lib.hid (CbB.new _ _ _)
  have B0 : Hid (Below w.heap.size w (w.alloc (.cells (mpv mp0) 31))) := Lib.hid ((Below.refl _ _).alloc (Nat.le_refl _) _)
  go_enter Tryz.func51, Tryz.ntmps51
  go_wp2_with fail
  exact bodyPost_ret (opn_results _ w.heap.size _ mp0 1 rfl rfl Q0.out) rfl ⟨rfl, B0.out⟩
theorem told_bound {b : List Nat} (hb : Byt b) : (toldP b).gn < 65536 ∧ (toldP b).cm < 18446744073709551616 := by
  unfold toldP
  by_cases h : b.length = 256
  · rw [if_pos h]
    by_cases h2 : toldOk b
    · rw [if_pos h2]
      have h3 : ((b.drop 6).take 2).length = 2 := by rw [List.length_take, List.length_drop]; omega
      have h4 : ((b.drop 8).take 8).length = 8 := by rw [List.length_take, List.length_drop]; omega
      have n2 := numB_lt (l := (b.drop 6).take 2) fun x hx => hb x (List.mem_of_mem_drop (List.mem_of_mem_take hx))
      have n8 := numB_lt (l := (b.drop 8).take 8) fun x hx => hb x (List.mem_of_mem_drop (List.mem_of_mem_take hx))
      rw [h3] at n2
      rw [h4] at n8
      exact ⟨n2, n8⟩
    · rw [if_neg h2]
      exact ⟨by decide, by decide⟩
  · rw [if_neg h]
    exact ⟨by decide, by decide⟩
theorem labT_M (s cm gn : Nat) (t : ToldR) (h1 : t.cm = cm) (h2 : t.gn = gn) : labM ⟨cm, 0, 0, 0, 0, gn, 0⟩ = labT s t := by subst h1 h2; rfl
set_option maxRecDepth 100000 in
set_option maxHeartbeats 4000000 in
theorem mOpen_ok (B g mm s : Nat) (l : RgL) (A : Option Addr) (c : Nat) (b : List Nat) (w : World) (hr : RgB w B g mm l) (hs : s ≤ 1) (hi : IsB w A 256 c b) :
    Calls Tryz.prog 51 #[.pointer (some ⟨g, 0, none⟩), .int .i64 (s : Int), .slice A 256 c] w fun e w' => e = .returned (opnV (if headM (s : Int) (toldP b) then mOpenB l (toldP b) b else ⟨mp0, 100⟩)) ∧ Below w.heap.size w w' := by
  have Q0 : Hid (CbB (w.alloc (.cells (mpv mp0) 31)) w.heap.size 31 (mpv mp0)) := Lib.hid (CbB.new _ _ _)
  have B0 : Hid (Below w.heap.size w (w.alloc (.cells (mpv mp0) 31))) := Lib.hid ((Below.refl _ _).alloc (Nat.le_refl _) _)
  have HT := Lib.hid fun W h => told_any A 256 c b W h
  have h1 : decide ((s : Int) < 0) = false := by simp
  have h2 : decide (1 < (s : Int)) = false := by simp; omega
  have h2' : decide (1 < s) = false := by simp; omega
  have h3 : IntKind.u64.wrap (s : Int) = (s : Int) := wide_u64 s (by omega)
  have HI := Lib.hid hi
  have HR := Lib.hid hr
  by_cases hh : headM (s : Int) (toldP b)
  · rw [if_pos hh]
    have hbd := told_bound hi.2
    unfold mOpenB
    generalize toldP b = t at *
    obtain ⟨k, lv, gn, cm, err⟩ := t
    simp only [headM] at hh hbd ⊢
    obtain ⟨rfl, rfl, rfl, hsl⟩ := hh
    have e4 : (((cm : Int) % 2) != (s : Int)) = false := by simp; omega
    have HK := Lib.hid fun W h => ringKey_any B g mm 0 gn l W h (by decide) hbd.1
    have HL := Lib.hid fun W => labelOf_any ⟨cm, 0, 0, 0, 0, gn, 0⟩ W
    have LO := Lib.hid (labM_ok (m := ⟨cm, 0, 0, 0, 0, gn, 0⟩) ⟨hbd.2, Nat.succ_pos _, Nat.succ_pos _, Nat.succ_pos _, Nat.succ_pos _, hbd.1, Nat.succ_pos _⟩)
    rw [labT_M 0 cm gn ⟨4, 0, gn, cm, 0⟩ rfl rfl] at HL LO
    simp only [mpv, toldV] at HL HT
    unfold keyP at HK
    cases hk : getR (0, gn) l with
    | none =>
      rw [hk] at HK
      simp only at HK ⊢
      clear hs hi hr hbd hsl HL LO hk
      go_enter Tryz.func51, Tryz.ntmps51
      go_wp2_with fail
      refine (HT.out _ (HI.out.ab B0.out)).mono ?_
      rintro e w1 ⟨rfl, hb⟩
      have Q1 := Lib.hid (Q0.out.ab hb)
      have B1 := Lib.hid (below_tr B0.out hb B0.out.size)
      clear hb
      go_wp2_with fail
      refine (HK.out _ (HR.out.ab B1.out)).mono ?_
      rintro e w2 ⟨v2, rfl, hv, hb⟩
      have Q2 := Lib.hid (Q1.out.ab hb)
      have B2 := Lib.hid (below_tr B1.out hb B1.out.size)
      clear hv hb
      go_wp2_with (refine wpList_storeC rfl 31 (.tmp 6) (.tmp 66) rfl w.heap.size rfl (mpv mp0) rfl (cs := mpv mp0) (t := 31) Q2.out (szMp _) rfl (mpv_one _) ?_
                   intro w3 hw3
                   have Q3 : Hid (MpB w3 w.heap.size mp0) := Lib.hid (by rw [hw3]; exact CbB.row Q2.out _)
                   have B3 : Hid (Below w.heap.size w w3) := Lib.hid (by rw [hw3]; exact Below.row B2.out (Nat.le_refl _) _)
                   clear hw3)
      exact bodyPost_ret (opn_results _ w.heap.size _ mp0 7 rfl rfl Q3.out) rfl ⟨rfl, B3.out⟩
    | some k =>
      have hkk := hr.ne _ (getR_mem hk)
      rw [hk] at HK
      simp only at HK ⊢
      have HO := Lib.hid fun kA kc W h1 tA tc h2 => lopen_any kA tA k.length kc 256 tc (labT 0 ⟨4, 0, gn, cm, 0⟩) k b W LO.out h1 h2
      have hob : (openP k (labT 0 ⟨4, 0, gn, cm, 0⟩) b).2 ≠ 0 ∨ (openP k (labT 0 ⟨4, 0, gn, cm, 0⟩) b).2 = 0 := by omega
      generalize openP k (labT 0 ⟨4, 0, gn, cm, 0⟩) b = X at *
      obtain ⟨pay, er⟩ := X
      simp only at hob HO ⊢
      have HD := Lib.hid fun A n c W h => decode_any A n c pay W h
      generalize decP pay = d at *
      obtain ⟨⟨d0, d1, d2, d3, d4, d5, d6⟩, der, dpos⟩ := d
      simp only [decV, mpv] at HD
      simp only
      generalize labT 0 ⟨4, 0, gn, cm, 0⟩ = LT at *
      rw [lab_cells] at HL HO
      clear hs hi hr hbd hsl hk hkk LO
      rcases hob with hne | rfl
      · rw [if_neg hne]
        have t1 : ((er : Int) != 0) = true := by simp [hne]
        clear hne
        go_enter Tryz.func51, Tryz.ntmps51
        go_wp2_with fail
        refine (HT.out _ (HI.out.ab B0.out)).mono ?_
        rintro e w1 ⟨rfl, hb⟩
        have Q1 := Lib.hid (Q0.out.ab hb)
        have B1 := Lib.hid (below_tr B0.out hb B0.out.size)
        clear hb
        go_wp2_with fail
        refine (HK.out _ (HR.out.ab B1.out)).mono ?_
        rintro e w2 ⟨v2, rfl, hv, hb⟩
        obtain ⟨A2, c2, rfl, _, _⟩ := hv.shape
        have I2 := Lib.hid (hv.isB rfl)
        have Q2 := Lib.hid (Q1.out.ab hb)
        have B2 := Lib.hid (below_tr B1.out hb B1.out.size)
        clear hv hb
        go_wp2_with fail
        refine (HL.out _).mono ?_
        rintro e w3 ⟨rfl, hb⟩
        have I3 := Lib.hid (I2.out.ab hb)
        have Q3 := Lib.hid (Q2.out.ab hb)
        have B3 := Lib.hid (below_tr B2.out hb B2.out.size)
        clear hb
        go_wp2_with fail
        refine (HO.out _ _ _ I3.out _ _ (HI.out.ab B3.out)).mono ?_
        rintro e w4 ⟨v4, rfl, hv, hb⟩
        have Q4 := Lib.hid (Q3.out.ab hb)
        have B4 := Lib.hid (below_tr B3.out hb B3.out.size)
        clear hv hb
        go_wp2_with (refine wpList_storeC rfl 31 (.tmp 6) (.tmp 80) rfl w.heap.size rfl (mpv mp0) rfl (cs := mpv mp0) (t := 31) Q4.out (szMp _) rfl (mpv_one _) ?_
                     intro w5 hw5
                     have Q5 : Hid (MpB w5 w.heap.size mp0) := Lib.hid (by rw [hw5]; exact CbB.row Q4.out _)
                     have B5 : Hid (Below w.heap.size w w5) := Lib.hid (by rw [hw5]; exact Below.row B4.out (Nat.le_refl _) _)
                     clear hw5)
        exact bodyPost_ret (opn_results _ w.heap.size _ mp0 er rfl rfl Q5.out) rfl ⟨rfl, B5.out⟩
      · rw [if_pos rfl]
        obtain ⟨r, hrr⟩ : ∃ r : OpnR, r = (if der = 0 ∧ d0 = cm ∧ d5 = gn then ⟨⟨d0, d1, d2, d3, d4, d5, d6⟩, 0⟩ else ⟨mp0, 5⟩) := ⟨_, rfl⟩
        rw [← hrr]
        have HRR := Lib.hid hrr
        clear hrr
        go_enter Tryz.func51, Tryz.ntmps51
        go_wp2_with fail
        refine (HT.out _ (HI.out.ab B0.out)).mono ?_
        rintro e w1 ⟨rfl, hb⟩
        have Q1 := Lib.hid (Q0.out.ab hb)
        have B1 := Lib.hid (below_tr B0.out hb B0.out.size)
        clear hb
        go_wp2_with fail
        refine (HK.out _ (HR.out.ab B1.out)).mono ?_
        rintro e w2 ⟨v2, rfl, hv, hb⟩
        obtain ⟨A2, c2, rfl, _, _⟩ := hv.shape
        have I2 := Lib.hid (hv.isB rfl)
        have Q2 := Lib.hid (Q1.out.ab hb)
        have B2 := Lib.hid (below_tr B1.out hb B1.out.size)
        clear hv hb
        go_wp2_with fail
        refine (HL.out _).mono ?_
        rintro e w3 ⟨rfl, hb⟩
        have I3 := Lib.hid (I2.out.ab hb)
        have Q3 := Lib.hid (Q2.out.ab hb)
        have B3 := Lib.hid (below_tr B2.out hb B2.out.size)
        clear hb
        go_wp2_with fail
        refine (HO.out _ _ _ I3.out _ _ (HI.out.ab B3.out)).mono ?_
        rintro e w4 ⟨v4, rfl, hv, hb⟩
        obtain ⟨A4, c4, rfl, _, _⟩ := hv.shape
        have I4 := Lib.hid (hv.isB rfl)
        have Q4 := Lib.hid (Q3.out.ab hb)
        have B4 := Lib.hid (below_tr B3.out hb B3.out.size)
        clear hv hb
        go_wp2_with fail
        refine (HD.out _ _ _ _ I4.out).mono ?_
        rintro e w5 ⟨rfl, hb⟩
        have Q5 := Lib.hid (Q4.out.ab hb)
        have B5 := Lib.hid (below_tr B4.out hb B4.out.size)
        have Z5 : Hid (w.heap.size < w5.heap.size) := Lib.hid Q5.out.lt
        clear hb Q1 Q2 Q3 Q4 B1 B2 B3 B4 I2 I3 I4 HD HO HL HK HT Q0 B0
        by_cases hok : der = 0 ∧ d0 = cm ∧ d5 = gn
        · have HRE : Hid (r = ⟨⟨d0, d1, d2, d3, d4, d5, d6⟩, 0⟩) := Lib.hid (HRR.out.trans (if_pos hok))
          obtain ⟨rfl, rfl, rfl⟩ := hok
          clear HRR
          have Q6 : Hid (MpB (w5.alloc (.cells #[.int .u64 (d0 : Int), .int .u32 (d1 : Int), .int .u64 (d2 : Int), .int .u16 (d3 : Int), .int .u8 (d4 : Int), .int .u16 (d5 : Int), .int .u32 (d6 : Int)] 31)) w.heap.size mp0) := Lib.hid (Q5.out.ab ((Below.refl _ _).alloc (Nat.le_refl _) _))
          have B6 : Hid (Below w.heap.size w (w5.alloc (.cells #[.int .u64 (d0 : Int), .int .u32 (d1 : Int), .int .u64 (d2 : Int), .int .u16 (d3 : Int), .int .u8 (d4 : Int), .int .u16 (d5 : Int), .int .u32 (d6 : Int)] 31))) := Lib.hid (B5.out.alloc B5.out.size _)
          go_wp2_with (refine wpList_storeC rfl 31 (.tmp 6) (.tmp 103) rfl w.heap.size rfl (mpv ⟨d0, d1, d2, d3, d4, d5, d6⟩) rfl (cs := mpv mp0) (t := 31) Q6.out (szMp _) rfl (mpv_one _) ?_
                       intro w7 hw7
                       have Q7 : Hid (MpB w7 w.heap.size ⟨d0, d1, d2, d3, d4, d5, d6⟩) := Lib.hid (by rw [hw7]; exact CbB.row Q6.out _)
                       have B7 : Hid (Below w.heap.size w w7) := Lib.hid (by rw [hw7]; exact Below.row B6.out (Nat.le_refl _) _)
                       clear hw7)
          exact bodyPost_ret (opn_results _ w.heap.size _ ⟨d0, d1, d2, d3, d4, d5, d6⟩ 0 rfl rfl Q7.out) rfl ⟨by rw [HRE.out], B7.out⟩
        · have HRE : Hid (r = ⟨mp0, 5⟩) := Lib.hid (HRR.out.trans (if_neg hok))
          have hc : ((der : Int) != 0) = true ∨ (((der : Int) != 0) = false ∧ ((d0 : Int) != (cm : Int)) = true) ∨ (((der : Int) != 0) = false ∧ ((d0 : Int) != (cm : Int)) = false ∧ ((d5 : Int) != (gn : Int)) = true) := by
            by_cases f1 : der = 0
            · by_cases f2 : d0 = cm
              · right; right
                have : d5 ≠ gn := fun e => hok ⟨f1, f2, e⟩
                exact ⟨by simp [f1], by simp [f2], by simp; omega⟩
              · right; left
                exact ⟨by simp [f1], by simp; omega⟩
            · left
              simp [f1]
          have Q6 : Hid (MpB (w5.alloc (.cells #[.int .u64 (d0 : Int), .int .u32 (d1 : Int), .int .u64 (d2 : Int), .int .u16 (d3 : Int), .int .u8 (d4 : Int), .int .u16 (d5 : Int), .int .u32 (d6 : Int)] 31)) w.heap.size mp0) := Lib.hid (Q5.out.ab ((Below.refl _ _).alloc (Nat.le_refl _) _))
          have B6 : Hid (Below w.heap.size w (w5.alloc (.cells #[.int .u64 (d0 : Int), .int .u32 (d1 : Int), .int .u64 (d2 : Int), .int .u16 (d3 : Int), .int .u8 (d4 : Int), .int .u16 (d5 : Int), .int .u32 (d6 : Int)] 31))) := Lib.hid (B5.out.alloc B5.out.size _)
          clear hok
          rcases hc with f1 | ⟨f1, f2⟩ | ⟨f1, f2, f3⟩
          all_goals
            go_wp2_with (refine wpList_storeC rfl 31 (.tmp 6) (.tmp 102) rfl w.heap.size rfl (mpv mp0) rfl (cs := mpv mp0) (t := 31) Q6.out (szMp _) rfl (mpv_one _) ?_
                         intro w7 hw7
                         have Q7 : Hid (MpB w7 w.heap.size mp0) := Lib.hid (by rw [hw7]; exact CbB.row Q6.out _)
                         have B7 : Hid (Below w.heap.size w w7) := Lib.hid (by rw [hw7]; exact Below.row B6.out (Nat.le_refl _) _)
                         clear hw7)
            exact bodyPost_ret (opn_results _ w.heap.size _ mp0 5 rfl rfl Q7.out) rfl ⟨by rw [HRE.out], B7.out⟩
  · rw [if_neg hh]
    generalize toldP b = t at *
    obtain ⟨k, lv, gn, cm, err⟩ := t
    simp only [headM, toldV] at hh HT
    have hc : ((err : Int) != 0) = true ∨ (((err : Int) != 0) = false ∧ ((k : Int) != 4) = true) ∨ (((err : Int) != 0) = false ∧ ((k : Int) != 4) = false ∧ ((lv : Int) != 0) = true) ∨ (((err : Int) != 0) = false ∧ ((k : Int) != 4) = false ∧ ((lv : Int) != 0) = false ∧ (((cm : Int) % 2) != (s : Int)) = true) := by
      by_cases e1 : err = 0
      · by_cases e2 : k = 4
        · by_cases e3 : lv = 0
          · right; right; right
            have : ((cm % 2 : Nat) : Int) ≠ (s : Int) := fun e => hh ⟨e1, e2, e3, e⟩
            refine ⟨by simp [e1], by simp [e2], by simp [e3], ?_⟩
            simp
            omega
          · right; right; left
            exact ⟨by simp [e1], by simp [e2], by simp [e3]⟩
        · right; left
          exact ⟨by simp [e1], by simp; omega⟩
      · left
        simp [e1]
    clear hh hs hi hr
    rcases hc with e1 | ⟨e1, e2⟩ | ⟨e1, e2, e3⟩ | ⟨e1, e2, e3, e4⟩
    all_goals
      go_enter Tryz.func51, Tryz.ntmps51
      go_wp2_with fail
      refine (HT.out _ (HI.out.ab B0.out)).mono ?_
      rintro e w1 ⟨rfl, hb⟩
      have Q1 := Lib.hid (Q0.out.ab hb)
      have B1 := Lib.hid (below_tr B0.out hb B0.out.size)
      clear hb
      go_wp2_with (refine wpList_storeC rfl 31 (.tmp 6) (.tmp 57) rfl w.heap.size rfl (mpv mp0) rfl (cs := mpv mp0) (t := 31) Q1.out (szMp _) rfl (mpv_one _) ?_
                   intro w2 hw2
                   have Q2 : Hid (MpB w2 w.heap.size mp0) := Lib.hid (by rw [hw2]; exact CbB.row Q1.out _)
                   have B2 : Hid (Below w.heap.size w w2) := Lib.hid (by rw [hw2]; exact Below.row B1.out (Nat.le_refl _) _)
                   clear hw2)
      exact bodyPost_ret (opn_results _ w.heap.size _ mp0 100 rfl rfl Q2.out) rfl ⟨rfl, B2.out⟩
end Go.Proofs.YtmeakfocppooiaaGreat

namespace Go.Proofs.YtmeakfocppooiaaGreat
open Go.RowKit
set_option linter.unusedVariables false

theorem zeros_el (n i : Nat) (h : i < (zeros n).length) : (zeros n)[i] = 0 := List.getElem_replicate _
theorem nAt_mid (a r : List Nat) (x s k : Nat) (hk : a.length = k) (h : x < 256 ^ s) : nAt (a ++ (digB x s ++ r)) k s = x := by
  subst hk
  unfold nAt
  rw [List.drop_left, List.take_left' (digB_len x s), numB_digB x s h]
theorem mbytes_split (m : Mp) : mbytes m = digB m.cm 8 ++ (digB m.pg 4 ++ (digB m.rc 8 ++ (digB m.rg 2 ++ (digB m.lv 1 ++ (digB m.gn 2 ++ (digB m.tn 4 ++ zeros 195)))))) := by
  simp only [mbytes, fldM, flatN, List.append_nil, List.append_assoc]
theorem mpOf_mbytes {m : Mp} (h : m.Ok) : mpOf (mbytes m) = m := by
  have h1 := h.cm; have h2 := h.pg; have h3 := h.rc; have h4 := h.rg; have h5 := h.lv; have h6 := h.gn; have h7 := h.tn
  rw [mbytes_split]
  obtain ⟨cm, pg, rc, rg, lv, gn, tn⟩ := m
  simp only at h1 h2 h3 h4 h5 h6 h7 ⊢
  have f1 := nAt_mid [] (digB pg 4 ++ (digB rc 8 ++ (digB rg 2 ++ (digB lv 1 ++ (digB gn 2 ++ (digB tn 4 ++ zeros 195)))))) cm 8 0 rfl h1
  have f2 := nAt_mid (digB cm 8) (digB rc 8 ++ (digB rg 2 ++ (digB lv 1 ++ (digB gn 2 ++ (digB tn 4 ++ zeros 195))))) pg 4 8 (by simp [digB_len]) h2
  have f3 := nAt_mid (digB cm 8 ++ digB pg 4) (digB rg 2 ++ (digB lv 1 ++ (digB gn 2 ++ (digB tn 4 ++ zeros 195)))) rc 8 12 (by simp [digB_len]) h3
  have f4 := nAt_mid (digB cm 8 ++ digB pg 4 ++ digB rc 8) (digB lv 1 ++ (digB gn 2 ++ (digB tn 4 ++ zeros 195))) rg 2 20 (by simp [digB_len]) h4
  have f5 := nAt_mid (digB cm 8 ++ digB pg 4 ++ digB rc 8 ++ digB rg 2) (digB gn 2 ++ (digB tn 4 ++ zeros 195)) lv 1 22 (by simp [digB_len]) h5
  have f6 := nAt_mid (digB cm 8 ++ digB pg 4 ++ digB rc 8 ++ digB rg 2 ++ digB lv 1) (digB tn 4 ++ zeros 195) gn 2 23 (by simp [digB_len]) h6
  have f7 := nAt_mid (digB cm 8 ++ digB pg 4 ++ digB rc 8 ++ digB rg 2 ++ digB lv 1 ++ digB gn 2) (zeros 195) tn 4 25 (by simp [digB_len]) h7
  simp only [List.nil_append, List.append_assoc] at f1 f2 f3 f4 f5 f6 f7
  unfold mpOf
  rw [f1, f2, f3, f4, f5, f6, f7]
theorem nz_none {l : List Nat} : ∀ (f k : Nat), (∀ i, k ≤ i → i < k + f → at' l i = 0) → nzFrom l f k = none
  | 0, k, _ => rfl
  | f + 1, k, h => by
    rw [nzFrom, if_pos (h k (Nat.le_refl _) (by omega))]
    exact nz_none f (k + 1) fun i h1 h2 => h i (by omega) (by omega)
theorem nz_all {l : List Nat} : ∀ (f k : Nat), nzFrom l f k = none → ∀ i, k ≤ i → i < k + f → at' l i = 0
  | 0, k, _, i, h1, h2 => by omega
  | f + 1, k, h, i, h1, h2 => by
    rw [nzFrom] at h
    by_cases hz : at' l k = 0
    · rw [if_pos hz] at h
      by_cases hi : i = k
      · rw [hi]; exact hz
      · exact nz_all f (k + 1) h i (by omega) (by omega)
    · rw [if_neg hz] at h
      cases h
theorem right_cm {m : Mp} (h : rightB m = true) : m.cm ≠ 0 := fun e => by
  unfold rightB at h
  rw [e] at h
  simp at h
theorem decP_mbytes {m : Mp} (h : m.Ok) (hr : rightB m = true) : decP (mbytes m) = ⟨m, 0, 0⟩ := by
  unfold decP
  have hz : nzFrom (mbytes m) 195 29 = none := nz_none 195 29 fun i h1 h2 => by
    rw [mbytes, at', List.getElem?_append_right (by rw [fldM_len]; omega), fldM_len, List.getElem?_eq_getElem (by rw [zeros_len]; omega), zeros_el]
    rfl
  rw [if_pos (mbytes_len m), mpOf_mbytes h, if_neg (right_cm hr), hr, cond_true, hz]
/-- what is made out of bytes may be -/
theorem mpOf_ok {b : List Nat} (hb : Byt b) (hl : b.length = 224) : (mpOf b).Ok :=
  ⟨nAt_lt hb hl 0 8 (by decide), nAt_lt hb hl 8 4 (by decide), nAt_lt hb hl 12 8 (by decide), nAt_lt hb hl 20 2 (by decide), nAt_lt hb hl 22 1 (by decide), nAt_lt hb hl 23 2 (by decide), nAt_lt hb hl 25 4 (by decide)⟩
theorem dig_nAt {b : List Nat} (hb : Byt b) (hl : b.length = 224) (k s : Nat) (h : k + s ≤ 224) : digB (nAt b k s) s = (b.drop k).take s := by
  have h1 : ((b.drop k).take s).length = s := by rw [List.length_take, List.length_drop]; omega
  have := digB_numB ((b.drop k).take s) (fun x hx => hb x (List.mem_of_mem_drop (List.mem_of_mem_take hx)))
  rw [h1] at this
  exact this
theorem decP_only {b : List Nat} (hb : Byt b) (he : (decP b).err = 0) : b.length = 224 ∧ (decP b).m = mpOf b ∧ rightB (mpOf b) = true ∧ mbytes (mpOf b) = b := by
  unfold decP at he ⊢
  by_cases hl : b.length = 224
  · rw [if_pos hl] at he ⊢
    by_cases h0 : (mpOf b).cm = 0
    · rw [if_pos h0] at he; cases he
    · rw [if_neg h0] at he ⊢
      cases hr : rightB (mpOf b)
      · rw [hr, cond_false] at he; cases he
      · rw [hr, cond_true] at he
        cases hn : nzFrom b 195 29 with
        | some i => rw [hn] at he; cases he
        | none =>
          refine ⟨hl, rfl, rfl, ?_⟩
          rw [mbytes_split]
          simp only [mpOf]
          rw [dig_nAt hb hl 0 8 (by decide), dig_nAt hb hl 8 4 (by decide), dig_nAt hb hl 12 8 (by decide), dig_nAt hb hl 20 2 (by decide), dig_nAt hb hl 22 1 (by decide), dig_nAt hb hl 23 2 (by decide), dig_nAt hb hl 25 4 (by decide)]
          have hz : zeros 195 = b.drop 29 := by
            apply List.ext_getElem
            · rw [zeros_len, List.length_drop]; omega
            · intro i h1 h2
              rw [zeros_len] at h1
              have := nz_all 195 29 hn (29 + i) (by omega) (by omega)
              rw [at', List.getElem?_eq_getElem (by omega)] at this
              rw [List.getElem_drop, zeros_el]
              simpa using this.symm
          rw [hz]
          have tk : ∀ (k s : Nat), (b.drop k).take s ++ b.drop (k + s) = b.drop k := fun k s => by
            rw [← List.drop_drop, List.take_append_drop]
          rw [tk 25 4, tk 23 2, tk 22 1, tk 20 2, tk 12 8, tk 8 4]
          exact tk 0 8
  · rw [if_neg hl] at he; cases he
/-- opened as it was sealed -/
theorem mOpen_seal {l : RgL} {m : Mp} {k : List Nat} (hm : m.Ok) (hr : rightB m = true) (hk : getR (0, m.gn) l = some k) (hkk : KeyOk k) (s : Int) :
    mOpenP l s (mSealP l m).1 = if s = 0 ∨ s = 1 then (if ((m.cm % 2 : Nat) : Int) = s then ⟨m, 0⟩ else ⟨mp0, 100⟩) else ⟨mp0, 2⟩ := by
  unfold mSealP
  rw [hr, cond_true, hk]
  simp only
  rw [sealM hkk m]
  simp only
  have hX : (sealA k (nonceL (labM m)) (aadL (labM m)) (mbytes m)).length = 240 := by rw [sealA_len, mbytes_len]
  have hl : (headL (labM m) ++ sealA k (nonceL (labM m)) (aadL (labM m)) (mbytes m)).length = 256 := by rw [List.length_append, headL_len, hX]
  have ht : toldP (headL (labM m) ++ sealA k (nonceL (labM m)) (aadL (labM m)) (mbytes m)) = ⟨4, 0, m.gn, m.cm, 0⟩ := told_seal (labM_ok hm) (by simp [labM]) (by simp [labM]) hX
  unfold mOpenP
  rw [ht]
  by_cases hs : s = 0 ∨ s = 1
  · rw [if_pos ⟨hs, hl⟩, if_pos hs]
    by_cases he : ((m.cm % 2 : Nat) : Int) = s
    · rw [if_pos he, if_pos ⟨rfl, rfl, rfl, he⟩]
      unfold mOpenB
      simp only
      rw [hk]
      simp only
      have hlab : labT 0 ⟨4, 0, m.gn, m.cm, 0⟩ = labM m := rfl
      rw [hlab, openP_seal (sealM_ok hkk m) (mbytes_len m)]
      simp only [if_true]
      rw [decP_mbytes hm hr]
      simp
    · rw [if_neg he, if_neg (fun h => he h.2.2.2)]
  · rw [if_neg (fun h => hs h.1), if_neg hs]
theorem mOpen_any (B g mm : Nat) (sl : Int) (l : RgL) (A : Option Addr) (n c : Nat) (b : List Nat) (w : World) (hr : RgB w B g mm l) (hi : IsB w A n c b) :
    Calls Tryz.prog 51 #[.pointer (some ⟨g, 0, none⟩), .int .i64 sl, .slice A n c] w fun e w' => e = .returned (opnV (mOpenP l sl b)) ∧ Below w.heap.size w w' := by
  have hl := hi.len
  unfold mOpenP
  by_cases h : (sl = 0 ∨ sl = 1) ∧ b.length = 256
  · rw [if_pos h]
    obtain ⟨hs, h2⟩ := h
    obtain rfl : n = 256 := by omega
    obtain ⟨s, rfl, hs1⟩ : ∃ s : Nat, sl = (s : Int) ∧ s ≤ 1 := by
      rcases hs with rfl | rfl
      · exact ⟨0, rfl, by decide⟩
      · exact ⟨1, rfl, by decide⟩
    exact mOpen_ok B g mm s l A c b w hr hs1 hi
  · rw [if_neg h]
    exact mOpen_arg g sl A n c w (fun q => h ⟨q.1, by omega⟩)
end Go.Proofs.YtmeakfocppooiaaGreat
