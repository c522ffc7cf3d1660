/-
  META PAGES: walks of Seal and Open.
  META PAGES: plain laws: there and back, just one form.
-/
import Derived.Test.YtakgebbeknfplaaGreatMtE
import Derived.Test.YtakgebbeknfplaaGreatLgA
import Derived.Test.YtakgebbeknfplaaGreatSeJ
namespace Go.Proofs.YtakgebbeknfplaaGreat
open Go.RowKit
set_option linter.unusedVariables false

/-- what comes of a block that is opened out of a slot: the meta page, or a refusal -/
structure OpnR where
  m : Mp
  err : Nat
deriving DecidableEq
def labT (s : Nat) (t : ToldR) : Lb := ⟨0, 4, 0, t.cm % 2, t.cm, t.gn⟩
def mOpenB (l : RgL) (t : ToldR) (b : List Nat) : OpnR :=
  match getR (0, t.gn) l with
  | none => ⟨mp0, 7⟩
  | some k => if (openP k (labT 0 t) b).2 = 0 then
      (if (decP (openP k (labT 0 t) b).1).err = 0 ∧ (decP (openP k (labT 0 t) b).1).m.cm = t.cm ∧ (decP (openP k (labT 0 t) b).1).m.gn = t.gn then ⟨(decP (openP k (labT 0 t) b).1).m, 0⟩ else ⟨mp0, 5⟩)
    else ⟨mp0, (openP k (labT 0 t) b).2⟩
def headM (sl : Int) (t : ToldR) : Prop := t.err = 0 ∧ t.k = 4 ∧ t.lv = 0 ∧ ((t.cm % 2 : Nat) : Int) = sl
instance (sl : Int) (t : ToldR) : Decidable (headM sl t) := by unfold headM; infer_instance
def mOpenP (l : RgL) (sl : Int) (b : List Nat) : OpnR :=
  if (sl = 0 ∨ sl = 1) ∧ b.length = 256 then (if headM sl (toldP b) then mOpenB l (toldP b) b else ⟨mp0, 100⟩) else ⟨mp0, 2⟩
def opnV (r : OpnR) : Value := .tuple #[.agg (mpv r.m), .int .i64 (r.err : Int)]
set_option maxRecDepth 100000 in
theorem opn_results (tmps : Array Value) (g6 : Nat) (W : World) (m : Mp) (err : Nat) (h6 : tmps[6]?.getD undef = .pointer (some ⟨g6, 0, none⟩)) (h7 : tmps[7]?.getD undef = .int .i64 (err : Int))
    (hm : MpB W g6 m) : (results Tryz.f87 tmps).run Tryz.prog W = .ok (opnV ⟨m, err⟩) W := by
  obtain ⟨c0, c1, c2, c3, c4, c5, c6⟩ := hm.cells
  simp [results, Tryz.results87, h6, h7, go_sem, c0, c1, c2, c3, c4, c5, c6, opnV, mpv]
set_option maxRecDepth 100000 in
set_option maxHeartbeats 2000000 in
theorem mOpen_arg (g : Nat) (sl : Int) (A : Option Addr) (n c : Nat) (w : World) (h : ¬ ((sl = 0 ∨ sl = 1) ∧ n = 256)) :
    Calls Tryz.prog 87 #[.pointer (some ⟨g, 0, none⟩), .int .i64 sl, .slice A n c] w fun e w' => e = .returned (opnV ⟨mp0, 2⟩) ∧ Below w.heap.size w w' := by
  have hc : (sl < 0 ∧ decide (sl < 0) = true) ∨ (decide (sl < 0) = false ∧ decide (1 < sl) = true) ∨ (decide (sl < 0) = false ∧ decide (1 < sl) = false ∧ ((n : Int) != 256) = true) := by
    by_cases h1 : sl < 0
    · exact .inl ⟨h1, decide_eq_true h1⟩
    · by_cases h2 : 1 < sl
      · exact .inr (.inl ⟨decide_eq_false h1, decide_eq_true h2⟩)
      · refine .inr (.inr ⟨decide_eq_false h1, decide_eq_false h2, ?_⟩)
        have : n ≠ 256 := fun e => h ⟨by omega, e⟩
        simp
        omega
  clear h
  have Q0 : Hid (CbB (w.alloc (.cells (mpv mp0) 63)) w.heap.size 63 (mpv mp0)) := Lib.hid (CbB.new _ _ _)
  have B0 : Hid (Below w.heap.size w (w.alloc (.cells (mpv mp0) 63))) := Lib.hid ((Below.refl _ _).alloc (Nat.le_refl _) _)
  rcases hc with ⟨_, h1⟩ | ⟨h1, h2⟩ | ⟨h1, h2, h3⟩
  all_goals
    go_enter Tryz.func87, Tryz.ntmps87
    go_wp2_with fail
    exact bodyPost_ret (opn_results _ w.heap.size _ mp0 2 rfl rfl Q0.out) rfl ⟨rfl, B0.out⟩
theorem told_bound {b : List Nat} (hb : Byt b) : (toldP b).gn < 65536 ∧ (toldP b).cm < 18446744073709551616 := by
  unfold toldP
  by_cases h : b.length = 256
  · rw [if_pos h]
    by_cases h2 : toldOk b
    · rw [if_pos h2]
      have h3 : ((b.drop 6).take 2).length = 2 := by rw [List.length_take, List.length_drop]; omega
      have h4 : ((b.drop 8).take 8).length = 8 := by rw [List.length_take, List.length_drop]; omega
      have n2 := numB_lt (l := (b.drop 6).take 2) fun x hx => hb x (List.mem_of_mem_drop (List.mem_of_mem_take hx))
      have n8 := numB_lt (l := (b.drop 8).take 8) fun x hx => hb x (List.mem_of_mem_drop (List.mem_of_mem_take hx))
      rw [h3] at n2
      rw [h4] at n8
      exact ⟨n2, n8⟩
    · rw [if_neg h2]
      exact ⟨by decide, by decide⟩
  · rw [if_neg h]
    exact ⟨by decide, by decide⟩
theorem labT_M (s cm gn : Nat) (t : ToldR) (h1 : t.cm = cm) (h2 : t.gn = gn) : labM ⟨cm, 0, 0, 0, 0, gn, 0⟩ = labT s t := by subst h1 h2; rfl
set_option maxRecDepth 100000 in
set_option maxHeartbeats 4000000 in
theorem mOpen_ok (B g mm s : Nat) (l : RgL) (A : Option Addr) (c : Nat) (b : List Nat) (w : World) (hr : RgB w B g mm l) (hs : s ≤ 1) (hi : IsB w A 256 c b) :
    Calls Tryz.prog 87 #[.pointer (some ⟨g, 0, none⟩), .int .i64 (s : Int), .slice A 256 c] w fun e w' => e = .returned (opnV (if headM (s : Int) (toldP b) then mOpenB l (toldP b) b else ⟨mp0, 100⟩)) ∧ Below w.heap.size w w' := by
  have Q0 : Hid (CbB (w.alloc (.cells (mpv mp0) 63)) w.heap.size 63 (mpv mp0)) := Lib.hid (CbB.new _ _ _)
  have B0 : Hid (Below w.heap.size w (w.alloc (.cells (mpv mp0) 63))) := Lib.hid ((Below.refl _ _).alloc (Nat.le_refl _) _)
  have HT := Lib.hid fun W h => told_any A 256 c b W h
  have h1 : decide ((s : Int) < 0) = false := by simp
  have h2 : decide (1 < (s : Int)) = false := by simp; omega
  have h2' : decide (1 < s) = false := by simp; omega
  have h3 : IntKind.u64.wrap (s : Int) = (s : Int) := wide_u64 s (by omega)
  have HI := Lib.hid hi
  have HR := Lib.hid hr
  by_cases hh : headM (s : Int) (toldP b)
  · rw [if_pos hh]
    have hbd := told_bound hi.2
    unfold mOpenB
    generalize toldP b = t at *
    obtain ⟨k, lv, gn, cm, err⟩ := t
    simp only [headM] at hh hbd ⊢
    obtain ⟨rfl, rfl, rfl, hsl⟩ := hh
    have e4 : (((cm : Int) % 2) != (s : Int)) = false := by simp; omega
    have HK := Lib.hid fun W h => ringKey_any B g mm 0 gn l W h (by decide) hbd.1
    have HL := Lib.hid fun W => labelOf_any ⟨cm, 0, 0, 0, 0, gn, 0⟩ W
    have LO := Lib.hid (labM_ok (m := ⟨cm, 0, 0, 0, 0, gn, 0⟩) ⟨hbd.2, Nat.succ_pos _, Nat.succ_pos _, Nat.succ_pos _, Nat.succ_pos _, hbd.1, Nat.succ_pos _⟩)
    rw [labT_M 0 cm gn ⟨4, 0, gn, cm, 0⟩ rfl rfl] at HL LO
    simp only [mpv, toldV] at HL HT
    unfold keyP at HK
    cases hk : getR (0, gn) l with
    | none =>
      rw [hk] at HK
      simp only at HK ⊢
      clear hs hi hr hbd hsl HL LO hk
      go_enter Tryz.func87, Tryz.ntmps87
      go_wp2_with fail
      refine (HT.out _ (HI.out.ab B0.out)).mono ?_
      rintro e w1 ⟨rfl, hb⟩
      have Q1 := Lib.hid (Q0.out.ab hb)
      have B1 := Lib.hid (below_tr B0.out hb B0.out.size)
      clear hb
      go_wp2_with fail
      refine (HK.out _ (HR.out.ab B1.out)).mono ?_
      rintro e w2 ⟨v2, rfl, hv, hb⟩
      have Q2 := Lib.hid (Q1.out.ab hb)
      have B2 := Lib.hid (below_tr B1.out hb B1.out.size)
      clear hv hb
      go_wp2_with (refine wpList_storeC rfl 63 (.tmp 6) (.tmp 66) rfl w.heap.size rfl (mpv mp0) rfl (cs := mpv mp0) (t := 63) Q2.out (szMp _) rfl (mpv_one _) ?_
                   intro w3 hw3
                   have Q3 : Hid (MpB w3 w.heap.size mp0) := Lib.hid (by rw [hw3]; exact CbB.row Q2.out _)
                   have B3 : Hid (Below w.heap.size w w3) := Lib.hid (by rw [hw3]; exact Below.row B2.out (Nat.le_refl _) _)
                   clear hw3)
      exact bodyPost_ret (opn_results _ w.heap.size _ mp0 7 rfl rfl Q3.out) rfl ⟨rfl, B3.out⟩
    | some k =>
      have hkk := hr.ne _ (getR_mem hk)
      rw [hk] at HK
      simp only at HK ⊢
      have HO := Lib.hid fun kA kc W h1 tA tc h2 => lopen_any kA tA k.length kc 256 tc (labT 0 ⟨4, 0, gn, cm, 0⟩) k b W LO.out h1 h2
      have hob : (openP k (labT 0 ⟨4, 0, gn, cm, 0⟩) b).2 ≠ 0 ∨ (openP k (labT 0 ⟨4, 0, gn, cm, 0⟩) b).2 = 0 := by omega
      generalize openP k (labT 0 ⟨4, 0, gn, cm, 0⟩) b = X at *
      obtain ⟨pay, er⟩ := X
      simp only at hob HO ⊢
      have HD := Lib.hid fun A n c W h => decode_any A n c pay W h
      generalize decP pay = d at *
      obtain ⟨⟨d0, d1, d2, d3, d4, d5, d6⟩, der, dpos⟩ := d
      simp only [decV, mpv] at HD
      simp only
      generalize labT 0 ⟨4, 0, gn, cm, 0⟩ = LT at *
      rw [lab_cells] at HL HO
      clear hs hi hr hbd hsl hk hkk LO
      rcases hob with hne | rfl
      · rw [if_neg hne]
        have t1 : ((er : Int) != 0) = true := by simp [hne]
        clear hne
        go_enter Tryz.func87, Tryz.ntmps87
        go_wp2_with fail
        refine (HT.out _ (HI.out.ab B0.out)).mono ?_
        rintro e w1 ⟨rfl, hb⟩
        have Q1 := Lib.hid (Q0.out.ab hb)
        have B1 := Lib.hid (below_tr B0.out hb B0.out.size)
        clear hb
        go_wp2_with fail
        refine (HK.out _ (HR.out.ab B1.out)).mono ?_
        rintro e w2 ⟨v2, rfl, hv, hb⟩
        obtain ⟨A2, c2, rfl, _, _⟩ := hv.shape
        have I2 := Lib.hid (hv.isB rfl)
        have Q2 := Lib.hid (Q1.out.ab hb)
        have B2 := Lib.hid (below_tr B1.out hb B1.out.size)
        clear hv hb
        go_wp2_with fail
        refine (HL.out _).mono ?_
        rintro e w3 ⟨rfl, hb⟩
        have I3 := Lib.hid (I2.out.ab hb)
        have Q3 := Lib.hid (Q2.out.ab hb)
        have B3 := Lib.hid (below_tr B2.out hb B2.out.size)
        clear hb
        go_wp2_with fail
        refine (HO.out _ _ _ I3.out _ _ (HI.out.ab B3.out)).mono ?_
        rintro e w4 ⟨v4, rfl, hv, hb⟩
        have Q4 := Lib.hid (Q3.out.ab hb)
        have B4 := Lib.hid (below_tr B3.out hb B3.out.size)
        clear hv hb
        go_wp2_with (refine wpList_storeC rfl 63 (.tmp 6) (.tmp 80) rfl w.heap.size rfl (mpv mp0) rfl (cs := mpv mp0) (t := 63) Q4.out (szMp _) rfl (mpv_one _) ?_
                     intro w5 hw5
                     have Q5 : Hid (MpB w5 w.heap.size mp0) := Lib.hid (by rw [hw5]; exact CbB.row Q4.out _)
                     have B5 : Hid (Below w.heap.size w w5) := Lib.hid (by rw [hw5]; exact Below.row B4.out (Nat.le_refl _) _)
                     clear hw5)
        exact bodyPost_ret (opn_results _ w.heap.size _ mp0 er rfl rfl Q5.out) rfl ⟨rfl, B5.out⟩
      · rw [if_pos rfl]
        obtain ⟨r, hrr⟩ : ∃ r : OpnR, r = (if der = 0 ∧ d0 = cm ∧ d5 = gn then ⟨⟨d0, d1, d2, d3, d4, d5, d6⟩, 0⟩ else ⟨mp0, 5⟩) := ⟨_, rfl⟩
        rw [← hrr]
        have HRR := Lib.hid hrr
        clear hrr
        go_enter Tryz.func87, Tryz.ntmps87
        go_wp2_with fail
        refine (HT.out _ (HI.out.ab B0.out)).mono ?_
        rintro e w1 ⟨rfl, hb⟩
        have Q1 := Lib.hid (Q0.out.ab hb)
        have B1 := Lib.hid (below_tr B0.out hb B0.out.size)
        clear hb
        go_wp2_with fail
        refine (HK.out _ (HR.out.ab B1.out)).mono ?_
        rintro e w2 ⟨v2, rfl, hv, hb⟩
        obtain ⟨A2, c2, rfl, _, _⟩ := hv.shape
        have I2 := Lib.hid (hv.isB rfl)
        have Q2 := Lib.hid (Q1.out.ab hb)
        have B2 := Lib.hid (below_tr B1.out hb B1.out.size)
        clear hv hb
        go_wp2_with fail
        refine (HL.out _).mono ?_
        rintro e w3 ⟨rfl, hb⟩
        have I3 := Lib.hid (I2.out.ab hb)
        have Q3 := Lib.hid (Q2.out.ab hb)
        have B3 := Lib.hid (below_tr B2.out hb B2.out.size)
        clear hb
        go_wp2_with fail
        refine (HO.out _ _ _ I3.out _ _ (HI.out.ab B3.out)).mono ?_
        rintro e w4 ⟨v4, rfl, hv, hb⟩
        obtain ⟨A4, c4, rfl, _, _⟩ := hv.shape
        have I4 := Lib.hid (hv.isB rfl)
        have Q4 := Lib.hid (Q3.out.ab hb)
        have B4 := Lib.hid (below_tr B3.out hb B3.out.size)
        clear hv hb
        go_wp2_with fail
        refine (HD.out _ _ _ _ I4.out).mono ?_
        rintro e w5 ⟨rfl, hb⟩
        have Q5 := Lib.hid (Q4.out.ab hb)
        have B5 := Lib.hid (below_tr B4.out hb B4.out.size)
        have Z5 : Hid (w.heap.size < w5.heap.size) := Lib.hid Q5.out.lt
        clear hb Q1 Q2 Q3 Q4 B1 B2 B3 B4 I2 I3 I4 HD HO HL HK HT Q0 B0
        by_cases hok : der = 0 ∧ d0 = cm ∧ d5 = gn
        · have HRE : Hid (r = ⟨⟨d0, d1, d2, d3, d4, d5, d6⟩, 0⟩) := Lib.hid (HRR.out.trans (if_pos hok))
          obtain ⟨rfl, rfl, rfl⟩ := hok
          clear HRR
          have Q6 : Hid (MpB (w5.alloc (.cells #[.int .u64 (d0 : Int), .int .u32 (d1 : Int), .int .u64 (d2 : Int), .int .u16 (d3 : Int), .int .u8 (d4 : Int), .int .u16 (d5 : Int), .int .u32 (d6 : Int)] 63)) w.heap.size mp0) := Lib.hid (Q5.out.ab ((Below.refl _ _).alloc (Nat.le_refl _) _))
          have B6 : Hid (Below w.heap.size w (w5.alloc (.cells #[.int .u64 (d0 : Int), .int .u32 (d1 : Int), .int .u64 (d2 : Int), .int .u16 (d3 : Int), .int .u8 (d4 : Int), .int .u16 (d5 : Int), .int .u32 (d6 : Int)] 63))) := Lib.hid (B5.out.alloc B5.out.size _)
          go_wp2_with (refine wpList_storeC rfl 63 (.tmp 6) (.tmp 103) rfl w.heap.size rfl (mpv ⟨d0, d1, d2, d3, d4, d5, d6⟩) rfl (cs := mpv mp0) (t := 63) Q6.out (szMp _) rfl (mpv_one _) ?_
                       intro w7 hw7
                       have Q7 : Hid (MpB w7 w.heap.size ⟨d0, d1, d2, d3, d4, d5, d6⟩) := Lib.hid (by rw [hw7]; exact CbB.row Q6.out _)
                       have B7 : Hid (Below w.heap.size w w7) := Lib.hid (by rw [hw7]; exact Below.row B6.out (Nat.le_refl _) _)
                       clear hw7)
          exact bodyPost_ret (opn_results _ w.heap.size _ ⟨d0, d1, d2, d3, d4, d5, d6⟩ 0 rfl rfl Q7.out) rfl ⟨by rw [HRE.out], B7.out⟩
        · have HRE : Hid (r = ⟨mp0, 5⟩) := Lib.hid (HRR.out.trans (if_neg hok))
          have hc : ((der : Int) != 0) = true ∨ (((der : Int) != 0) = false ∧ ((d0 : Int) != (cm : Int)) = true) ∨ (((der : Int) != 0) = false ∧ ((d0 : Int) != (cm : Int)) = false ∧ ((d5 : Int) != (gn : Int)) = true) := by
            by_cases f1 : der = 0
            · by_cases f2 : d0 = cm
              · right; right
                have : d5 ≠ gn := fun e => hok ⟨f1, f2, e⟩
                exact ⟨by simp [f1], by simp [f2], by simp; omega⟩
              · right; left
                exact ⟨by simp [f1], by simp; omega⟩
            · left
              simp [f1]
          have Q6 : Hid (MpB (w5.alloc (.cells #[.int .u64 (d0 : Int), .int .u32 (d1 : Int), .int .u64 (d2 : Int), .int .u16 (d3 : Int), .int .u8 (d4 : Int), .int .u16 (d5 : Int), .int .u32 (d6 : Int)] 63)) w.heap.size mp0) := Lib.hid (Q5.out.ab ((Below.refl _ _).alloc (Nat.le_refl _) _))
          have B6 : Hid (Below w.heap.size w (w5.alloc (.cells #[.int .u64 (d0 : Int), .int .u32 (d1 : Int), .int .u64 (d2 : Int), .int .u16 (d3 : Int), .int .u8 (d4 : Int), .int .u16 (d5 : Int), .int .u32 (d6 : Int)] 63))) := Lib.hid (B5.out.alloc B5.out.size _)
          clear hok
          rcases hc with f1 | ⟨f1, f2⟩ | ⟨f1, f2, f3⟩
          all_goals
            go_wp2_with (refine wpList_storeC rfl 63 (.tmp 6) (.tmp 102) rfl w.heap.size rfl (mpv mp0) rfl (cs := mpv mp0) (t := 63) Q6.out (szMp _) rfl (mpv_one _) ?_
                         intro w7 hw7
                         have Q7 : Hid (MpB w7 w.heap.size mp0) := Lib.hid (by rw [hw7]; exact CbB.row Q6.out _)
                         have B7 : Hid (Below w.heap.size w w7) := Lib.hid (by rw [hw7]; exact Below.row B6.out (Nat.le_refl _) _)
                         clear hw7)
            exact bodyPost_ret (opn_results _ w.heap.size _ mp0 5 rfl rfl Q7.out) rfl ⟨by rw [HRE.out], B7.out⟩
  · rw [if_neg hh]
    generalize toldP b = t at *
    obtain ⟨k, lv, gn, cm, err⟩ := t
    simp only [headM, toldV] at hh HT
    have hc : ((err : Int) != 0) = true ∨ (((err : Int) != 0) = false ∧ ((k : Int) != 4) = true) ∨ (((err : Int) != 0) = false ∧ ((k : Int) != 4) = false ∧ ((lv : Int) != 0) = true) ∨ (((err : Int) != 0) = false ∧ ((k : Int) != 4) = false ∧ ((lv : Int) != 0) = false ∧ (((cm : Int) % 2) != (s : Int)) = true) := by
      by_cases e1 : err = 0
      · by_cases e2 : k = 4
        · by_cases e3 : lv = 0
          · right; right; right
            have : ((cm % 2 : Nat) : Int) ≠ (s : Int) := fun e => hh ⟨e1, e2, e3, e⟩
            refine ⟨by simp [e1], by simp [e2], by simp [e3], ?_⟩
            simp
            omega
          · right; right; left
            exact ⟨by simp [e1], by simp [e2], by simp [e3]⟩
        · right; left
          exact ⟨by simp [e1], by simp; omega⟩
      · left
        simp [e1]
    clear hh hs hi hr
    rcases hc with e1 | ⟨e1, e2⟩ | ⟨e1, e2, e3⟩ | ⟨e1, e2, e3, e4⟩
    all_goals
      go_enter Tryz.func87, Tryz.ntmps87
      go_wp2_with fail
      refine (HT.out _ (HI.out.ab B0.out)).mono ?_
      rintro e w1 ⟨rfl, hb⟩
      have Q1 := Lib.hid (Q0.out.ab hb)
      have B1 := Lib.hid (below_tr B0.out hb B0.out.size)
      clear hb
      go_wp2_with (refine wpList_storeC rfl 63 (.tmp 6) (.tmp 57) rfl w.heap.size rfl (mpv mp0) rfl (cs := mpv mp0) (t := 63) Q1.out (szMp _) rfl (mpv_one _) ?_
                   intro w2 hw2
                   have Q2 : Hid (MpB w2 w.heap.size mp0) := Lib.hid (by rw [hw2]; exact CbB.row Q1.out _)
                   have B2 : Hid (Below w.heap.size w w2) := Lib.hid (by rw [hw2]; exact Below.row B1.out (Nat.le_refl _) _)
                   clear hw2)
      exact bodyPost_ret (opn_results _ w.heap.size _ mp0 100 rfl rfl Q2.out) rfl ⟨rfl, B2.out⟩
end Go.Proofs.YtakgebbeknfplaaGreat

namespace Go.Proofs.YtakgebbeknfplaaGreat
open Go.RowKit
set_option linter.unusedVariables false

theorem mOpen_any (B g mm : Nat) (sl : Int) (l : RgL) (A : Option Addr) (n c : Nat) (b : List Nat) (w : World) (hr : RgB w B g mm l) (hi : IsB w A n c b) :
    Calls Tryz.prog 87 #[.pointer (some ⟨g, 0, none⟩), .int .i64 sl, .slice A n c] w fun e w' => e = .returned (opnV (mOpenP l sl b)) ∧ Below w.heap.size w w' := by
  have hl := hi.len
  unfold mOpenP
  by_cases h : (sl = 0 ∨ sl = 1) ∧ b.length = 256
  · rw [if_pos h]
    obtain ⟨hs, h2⟩ := h
    obtain rfl : n = 256 := by omega
    obtain ⟨s, rfl, hs1⟩ : ∃ s : Nat, sl = (s : Int) ∧ s ≤ 1 := by
      rcases hs with rfl | rfl
      · exact ⟨0, rfl, by decide⟩
      · exact ⟨1, rfl, by decide⟩
    exact mOpen_ok B g mm s l A c b w hr hs1 hi
  · rw [if_neg h]
    exact mOpen_arg g sl A n c w (fun q => h ⟨q.1, by omega⟩)
end Go.Proofs.YtakgebbeknfplaaGreat
