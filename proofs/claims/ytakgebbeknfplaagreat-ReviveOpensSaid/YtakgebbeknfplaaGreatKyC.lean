/-
  META PAGES: the reference's Open.
-/
import Derived.Test.YtakgebbeknfplaaGreatMtP
import Derived.Test.YtakgebbeknfplaaGreatMtE
import Derived.Test.YtakgebbeknfplaaGreatSeJ
import Derived.Test.YtakgebbeknfplaaGreatRkB
namespace Go.Proofs.YtakgebbeknfplaaGreat
open Go.RowKit
set_option linter.unusedVariables false

theorem openT_err {k b : List Nat} {s : Int} (hy : Byt b) (hk : KeyOk k) (hb : b.length = 256) (h : headM s (toldP b)) : (openP k (labT 0 (toldP b)) b).2 = 60 ∨ (openP k (labT 0 (toldP b)) b).2 = 0 := by
  have hS : SOk k (labT 0 (toldP b)) := ⟨hk, by simp [labT], by simp [labT]⟩
  have ht : toldOk b := by
    rcases Decidable.em (toldOk b) with ht | ht
    · exact ht
    · obtain ⟨h1, h2, _⟩ := h
      unfold toldP at h1
      rw [if_pos hb, if_neg ht] at h1
      cases h1
  have e := head_split hy hb
  have et : toldP b = ⟨at' b 4, at' b 5, numB ((b.drop 6).take 2), numB ((b.drop 8).take 8), 0⟩ := by
    unfold toldP
    rw [if_pos hb, if_pos ht]
  have h2 : b.take 16 = headL (labT 0 (toldP b)) := by
    have h3 := e.symm.mp ht.1
    obtain ⟨_, h4, h5, _⟩ := h
    rw [et] at h4 h5 ⊢
    simp only at h4 h5
    rw [h3]
    exact headL_same h4 h5 rfl rfl
  unfold openP
  rw [if_pos ⟨hS, hb⟩, if_pos h2]
  exact openS_err ⟨hS.1, nonceL_len _⟩ (by rw [aadL_len]; decide) (by rw [List.length_drop]; omega) (by rw [List.length_drop]; omega)
theorem ropn_results (tmps : Array Value) (g6 : Nat) (W : World) (m : Mp) (err : Nat) (h6 : tmps[6]?.getD undef = .pointer (some ⟨g6, 0, none⟩)) (h7 : tmps[7]?.getD undef = .int .i64 (err : Int))
    (hm : MpB W g6 m) : (results Tryz.f89 tmps).run Tryz.prog W = .ok (opnV ⟨m, err⟩) W := by
  obtain ⟨c0, c1, c2, c3, c4, c5, c6⟩ := hm.cells
  simp [results, Tryz.results89, h6, h7, go_sem, c0, c1, c2, c3, c4, c5, c6, opnV, mpv]
theorem mpv0 : mpv mp0 = #[.int .u64 0, .int .u32 0, .int .u64 0, .int .u16 0, .int .u8 0, .int .u16 0, .int .u32 0] := rfl
theorem MpB.zeros {w : World} {g : Nat} (h : MpB w g mp0) : w.cell? ⟨g, 0, none⟩ = some (.int .u64 0) ∧ w.cell? ⟨g, 1, none⟩ = some (.int .u32 0) ∧ w.cell? ⟨g, 2, none⟩ = some (.int .u64 0) ∧ w.cell? ⟨g, 3, none⟩ = some (.int .u16 0) ∧
    w.cell? ⟨g, 4, none⟩ = some (.int .u8 0) ∧ w.cell? ⟨g, 5, none⟩ = some (.int .u16 0) ∧ w.cell? ⟨g, 6, none⟩ = some (.int .u32 0) := h.cells
/-- the two boxes at first -/
theorem two_pages (w : World) : MpB ((w.alloc (.cells (mpv mp0) 63)).alloc (.cells (mpv mp0) 63)) w.heap.size mp0 ∧ MpB ((w.alloc (.cells (mpv mp0) 63)).alloc (.cells (mpv mp0) 63)) (w.heap.size + 1) mp0 ∧
    Below w.heap.size w ((w.alloc (.cells (mpv mp0) 63)).alloc (.cells (mpv mp0) 63)) := by
  have h1 : Below w.heap.size w (w.alloc (.cells (mpv mp0) 63)) := (Below.refl _ _).alloc (Nat.le_refl _) _
  refine ⟨(MpB.new w mp0).ab ((Below.refl _ _).alloc (Nat.le_refl _) _), ?_, h1.alloc (by simp) _⟩
  have := MpB.new (w.alloc (.cells (mpv mp0) 63)) mp0
  simpa using this
set_option maxRecDepth 100000 in
set_option maxHeartbeats 2000000 in
theorem rOpen_arg (g : Nat) (sl : Int) (A : Option Addr) (n c : Nat) (w : World) (h : ¬ ((sl = 0 ∨ sl = 1) ∧ n = 256)) :
    Calls Tryz.prog 89 #[.pointer (some ⟨g, 0, none⟩), .int .i64 sl, .slice A n c] w fun e w' => e = .returned (opnV ⟨mp0, 2⟩) ∧ Below w.heap.size w w' := by
  have hc : (sl < 0 ∧ decide (sl < 0) = true) ∨ (decide (sl < 0) = false ∧ decide (1 < sl) = true) ∨ (decide (sl < 0) = false ∧ decide (1 < sl) = false ∧ ((n : Int) != 256) = true) := by
    by_cases h1 : sl < 0
    · exact .inl ⟨h1, decide_eq_true h1⟩
    · by_cases h2 : 1 < sl
      · exact .inr (.inl ⟨decide_eq_false h1, decide_eq_true h2⟩)
      · refine .inr (.inr ⟨decide_eq_false h1, decide_eq_false h2, ?_⟩)
        have : n ≠ 256 := fun e => h ⟨by omega, e⟩
        simp
        omega
  clear h
  obtain ⟨q0, n0, b0⟩ := two_pages w
  have Q0 : Hid (CbB _ w.heap.size 63 (mpv mp0)) := Lib.hid q0
  have B0 := Lib.hid b0
  obtain ⟨x0, x1, x2, x3, x4, x5, x6⟩ := n0.zeros
  simp only [mpv0] at x0 x1 x2 x3 x4 x5 x6
  clear q0 n0 b0
  rcases hc with ⟨_, h1⟩ | ⟨h1, h2⟩ | ⟨h1, h2, h3⟩
  all_goals
    go_enter Tryz.func89, Tryz.ntmps89
    go_wp2_with (refine wpList_storeC rfl  63 (.tmp 6) (.tmp 26) rfl w.heap.size rfl (mpv mp0) rfl (cs := mpv mp0) (t := 63) Q0.out (szMp _) rfl (mpv_one _) ?_
                 intro w5 hw5
                 have Q5 : Hid (MpB w5 w.heap.size mp0) := Lib.hid (by rw [hw5]; exact CbB.row Q0.out _)
                 have B5 : Hid (Below w.heap.size w w5) := Lib.hid (by rw [hw5]; exact Below.row B0.out (Nat.le_refl _) _)
                 clear hw5)
    exact bodyPost_ret (ropn_results _ w.heap.size _ mp0 2 rfl rfl Q5.out) rfl ⟨rfl, B5.out⟩
set_option maxRecDepth 100000 in
set_option maxHeartbeats 4000000 in
theorem rOpen_ok (B g s : Nat) (v : Value) (vs : List ((Nat × Nat) × Value)) (l : RgL) (A : Option Addr) (c : Nat) (b : List Nat) (w : World) (hr : RkB w B g v vs l) (h200 : l.length ≤ 1000) (hs : s ≤ 1) (hi : IsB w A 256 c b) :
    Calls Tryz.prog 89 #[.pointer (some ⟨g, 0, none⟩), .int .i64 (s : Int), .slice A 256 c] w fun e w' => e = .returned (opnV (if headM (s : Int) (toldP b) then mOpenB l (toldP b) b else ⟨mp0, 100⟩)) ∧ Below w.heap.size w w' := by
  obtain ⟨q0, n0, b0⟩ := two_pages w
  have Q0 := Lib.hid q0
  have N0 := Lib.hid n0
  have B0 := Lib.hid b0
  clear q0 n0 b0
  simp only [mpv0] at Q0 N0 B0
  have HT := Lib.hid fun W h => rtold_any A 256 c b W h
  have h1 : decide ((s : Int) < 0) = false := by simp
  have h2 : decide (1 < (s : Int)) = false := by simp; omega
  have h2' : decide (1 < s) = false := by simp; omega
  have h3 : IntKind.u64.wrap (s : Int) = (s : Int) := wide_u64 s (by omega)
  have HI := Lib.hid hi
  have HR := Lib.hid hr
  by_cases hh : headM (s : Int) (toldP b)
  · rw [if_pos hh]
    have hbd := told_bound hi.2
    have HE := Lib.hid fun k hk => openT_err (k := k) (s := (s : Int)) hi.2 hk (by rw [hi.len]) hh
    unfold mOpenB
    generalize toldP b = t at *
    obtain ⟨k, lv, gn, cm, err⟩ := t
    simp only [headM] at hh hbd ⊢
    obtain ⟨rfl, rfl, rfl, hsl⟩ := hh
    have e4 : (((cm : Int) % 2) != (s : Int)) = false := by simp; omega
    have e5 : IntKind.u32.wrap (s : Int) = (s : Int) := by
      have : s = 0 ∨ s = 1 := by omega
      rcases this with rfl | rfl <;> rfl
    have hsm : s = cm % 2 := by omega
    simp only [lab_cells] at HT
    cases hk : getR (0, gn) l with
    | none =>
      simp only
      have HA := Lib.hid fun W h => rat_any B g 0 gn v vs l W h (by decide) hbd.1 h200 (-1) (.inl ⟨rfl, hk⟩)
      clear hs hi hr hbd hsl hk h200 hsm
      go_enter Tryz.func89, Tryz.ntmps89
      go_wp2_with fail
      refine (HT.out _ (HI.out.ab B0.out)).mono ?_
      rintro e w1 ⟨rfl, hb⟩
      have Q1 := Lib.hid (Q0.out.ab hb)
      have N1 := Lib.hid (N0.out.ab hb)
      have B1 := Lib.hid (below_tr B0.out hb B0.out.size)
      have Z1 : Hid (w.heap.size + 1 < w1.heap.size) := Lib.hid N1.out.lt
      have ha : Below w1.heap.size w1 (w1.alloc (.cells #[.int .u32 0, .int .u8 4, .int .u8 0, .int .u32 0, .int .u64 (cm : Int), .int .u16 (gn : Int)] 149)) := (Below.refl _ _).alloc (Nat.le_refl _) _
      have L2 : Hid (CbB (w1.alloc (.cells #[.int .u32 0, .int .u8 4, .int .u8 0, .int .u32 0, .int .u64 (cm : Int), .int .u16 (gn : Int)] 149)) w1.heap.size 149 #[.int .u32 0, .int .u8 4, .int .u8 0, .int .u32 0, .int .u64 (cm : Int), .int .u16 (gn : Int)]) := Lib.hid (CbB.new _ _ _)
      have Q2 : Hid (CbB _ w.heap.size 63 (mpv mp0)) := Lib.hid (Q1.out.ab ha)
      have N2 := Lib.hid (N1.out.ab ha)
      have B2 := Lib.hid (below_tr B1.out ha B1.out.size)
      obtain ⟨x0, x1, x2, x3, x4, x5, x6⟩ := N2.out.zeros
      have l0 := L2.out.cell (k := 0) rfl
      have l1 := L2.out.cell (k := 1) rfl
      have l2 := L2.out.cell (k := 2) rfl
      have l3 := L2.out.cell (k := 3) rfl
      have l4 := L2.out.cell (k := 4) rfl
      have l5 := L2.out.cell (k := 5) rfl
      clear hb ha
      have G2 := Lib.hid L2.out.free
      go_wp2_with fail
      refine (HA.out _ (HR.out.ab B2.out)).mono ?_
      rintro e w' ⟨rfl, rfl⟩
      go_wp2_with ((with_reducible refine wpList_storeC (o := ⟨none, .store _ (.tmp 6) (.tmp 61), _, _, _, _⟩) rfl 63 (.tmp 6) (.tmp 61) ?_ w.heap.size ?_ (mpv mp0) ?_ (cs := mpv mp0) (t := 63) Q2.out (szMp _) ?_ (mpv_one _) ?_)
                   · exact rfl
                   · exact rfl
                   · exact rfl
                   · exact rfl
                   intro w5 hw5
                   have Q5 : Hid (MpB w5 w.heap.size mp0) := Lib.hid (by rw [hw5]; exact CbB.row Q2.out _)
                   have B5 : Hid (Below w.heap.size w w5) := Lib.hid (by rw [hw5]; exact Below.row B2.out (Nat.le_refl _) _)
                   clear hw5)
      exact bodyPost_ret (ropn_results _ w.heap.size _ mp0 7 rfl rfl Q5.out) rfl ⟨rfl, B5.out⟩
    | some k =>
      simp only
      obtain ⟨i, hx, hno⟩ := getR_idx hk
      have HA := Lib.hid fun W h => rat_any B g 0 gn v vs l W h (by decide) hbd.1 h200 (i : Int) (.inr ⟨i, k, rfl, hx, hno⟩)
      have HX := Lib.hid hx
      have LL := Lib.hid (List.getElem?_eq_some_iff.1 hx).1
      have hkk := hr.ne _ (getR_mem hk)
      have LO := Lib.hid (labM_ok (m := ⟨cm, 0, 0, 0, 0, gn, 0⟩) ⟨hbd.2, Nat.succ_pos _, Nat.succ_pos _, Nat.succ_pos _, Nat.succ_pos _, hbd.1, Nat.succ_pos _⟩)
      rw [labT_M 0 cm gn ⟨4, 0, gn, cm, 0⟩ rfl rfl] at LO
      have HO := Lib.hid fun kA kc W h1 tA tc h2 => rlopen_any kA tA k.length kc 256 tc (labT 0 ⟨4, 0, gn, cm, 0⟩) k b W LO.out h1 h2
      have hob := HE.out k hkk
      generalize openP k (labT 0 ⟨4, 0, gn, cm, 0⟩) b = X at *
      obtain ⟨pay, er⟩ := X
      have hlt : lab (labT 0 ⟨4, 0, gn, cm, 0⟩) = #[.int .u32 0, .int .u8 4, .int .u8 0, .int .u32 (s : Int), .int .u64 (cm : Int), .int .u16 (gn : Int)] := by rw [hsm]; rfl
      rw [hlt] at HO
      simp only at hob HO ⊢
      have HD := Lib.hid fun A n c W h => rdecode_any A n c pay W h
      generalize decP pay = d at *
      obtain ⟨⟨d0, d1, d2, d3, d4, d5, d6⟩, der, dpos⟩ := d
      simp only [decV, mpv] at HD
      simp only
      clear hs hi hr hbd hsl hk hkk LO hx hno h200 hsm hlt HE
      rcases hob with her | her
      · have t1 : ((er : Int) != 0) = true := by rw [her]; rfl
        rw [if_neg (by omega), her]
        clear her
        go_enter Tryz.func89, Tryz.ntmps89
        go_wp2_with fail
        refine (HT.out _ (HI.out.ab B0.out)).mono ?_
        rintro e w1 ⟨rfl, hb⟩
        have Q1 := Lib.hid (Q0.out.ab hb)
        have N1 := Lib.hid (N0.out.ab hb)
        have B1 := Lib.hid (below_tr B0.out hb B0.out.size)
        have Z1 : Hid (w.heap.size + 1 < w1.heap.size) := Lib.hid N1.out.lt
        have ha : Below w1.heap.size w1 (w1.alloc (.cells #[.int .u32 0, .int .u8 4, .int .u8 0, .int .u32 0, .int .u64 (cm : Int), .int .u16 (gn : Int)] 149)) := (Below.refl _ _).alloc (Nat.le_refl _) _
        have L2 : Hid (CbB (w1.alloc (.cells #[.int .u32 0, .int .u8 4, .int .u8 0, .int .u32 0, .int .u64 (cm : Int), .int .u16 (gn : Int)] 149)) w1.heap.size 149 #[.int .u32 0, .int .u8 4, .int .u8 0, .int .u32 0, .int .u64 (cm : Int), .int .u16 (gn : Int)]) := Lib.hid (CbB.new _ _ _)
        have Q2 : Hid (CbB _ w.heap.size 63 (mpv mp0)) := Lib.hid (Q1.out.ab ha)
        have N2 : Hid (CbB _ (w.heap.size + 1) 63 (mpv mp0)) := Lib.hid (N1.out.ab ha)
        have B2 := Lib.hid (below_tr B1.out ha B1.out.size)
        have l0 := L2.out.cell (k := 0) rfl
        have l1 := L2.out.cell (k := 1) rfl
        have l2 := L2.out.cell (k := 2) rfl
        have l4 := L2.out.cell (k := 4) rfl
        have l5 := L2.out.cell (k := 5) rfl
        have f3 := L2.out.free 3
        clear hb ha
        go_wp2_with fail
        refine (HA.out _ (HR.out.ab B2.out)).mono ?_
        rintro e w' ⟨rfl, rfl⟩
        go_wp2_with fail
        have ha3 : Below w1.heap.size w1 (w1.alloc (.cells #[.int .u32 0, .int .u8 4, .int .u8 0, .int .u32 (s : Int), .int .u64 (cm : Int), .int .u16 (gn : Int)] 149)) := (Below.refl _ _).alloc (Nat.le_refl _) _
        have Q3 : Hid (CbB (w1.alloc (.cells #[.int .u32 0, .int .u8 4, .int .u8 0, .int .u32 (s : Int), .int .u64 (cm : Int), .int .u16 (gn : Int)] 149)) w.heap.size 63 (mpv mp0)) := Lib.hid (Q1.out.ab ha3)
        have N3 : Hid (CbB (w1.alloc (.cells #[.int .u32 0, .int .u8 4, .int .u8 0, .int .u32 (s : Int), .int .u64 (cm : Int), .int .u16 (gn : Int)] 149)) (w.heap.size + 1) 63 (mpv mp0)) := Lib.hid (N1.out.ab ha3)
        have L3 : Hid (CbB (w1.alloc (.cells #[.int .u32 0, .int .u8 4, .int .u8 0, .int .u32 (s : Int), .int .u64 (cm : Int), .int .u16 (gn : Int)] 149)) w1.heap.size 149 #[.int .u32 0, .int .u8 4, .int .u8 0, .int .u32 (s : Int), .int .u64 (cm : Int), .int .u16 (gn : Int)]) := Lib.hid (CbB.new _ _ _)
        have B3 := Lib.hid (below_tr B1.out ha3 B1.out.size)
        clear ha3
        clear l0 l1 l2 l4 l5 f3 Q2 N2 L2 B2 Q1 N1 B1
        generalize (w1.alloc (.cells #[.int .u32 0, .int .u8 4, .int .u8 0, .int .u32 (s : Int), .int .u64 (cm : Int), .int .u16 (gn : Int)] 149)) = w3 at *
        have R3 := Lib.hid (HR.out.ab B3.out)
        have I3 := Lib.hid (HI.out.ab B3.out)
        obtain ⟨gb, cap, hve, hgb, hgl, _, _, hcl⟩ := R3.out.form (by have := LL.out; omega)
        obtain ⟨u, _, _, c2, ho⟩ := hcl i _ HX.out
        obtain ⟨kA, kc, rfl, _, _⟩ := ho.shape
        subst hve
        have K3 := Lib.hid (ho.isB rfl)
        have C2 := Lib.hid c2
        have GL := Lib.hid hgl
        have hin : (i : Int) < (l.length : Int) := by have := LL.out; omega
        clear hcl ho c2 hgl hgb
        refine wp_wide3 [⟨67, IsR (.pointer (some ⟨g, 0, none⟩)), [], false⟩, ⟨68, IsR (.pointer (some ⟨g, 0, none⟩)), [0], false⟩, ⟨69, IsR (.pointer (some ⟨g, 0, none⟩)), [1], false⟩, ⟨70, IsR (.slice (some ⟨gb, 0, none⟩) l.length cap), [2], false⟩, ⟨71, IsR (.int .i64 (i : Int)), [], false⟩, ⟨72, IsR (.pointer (some ⟨gb, i * 3, none⟩)), [3, 4], false⟩, ⟨73, IsR (.pointer (some ⟨gb, i * 3 + 2, none⟩)), [5], false⟩, ⟨74, IsR (.slice kA k.length kc), [6], false⟩, ⟨75, IsR (.agg #[.int .u32 0, .int .u8 4, .int .u8 0, .int .u32 (s : Int), .int .u64 (cm : Int), .int .u16 (gn : Int)]), [], false⟩, ⟨76, IsR (.slice A 256 c), [], false⟩, ⟨77, TupB w3.heap.size er pay, [7, 8, 9], false⟩, ⟨66, TupB w3.heap.size er (pay), [10], false⟩, ⟨78, OwR w3.heap.size (pay), [11], false⟩, ⟨79, IsR (.int .i64 (er : Int)), [11], false⟩, ⟨12, OwR w3.heap.size (pay), [12], false⟩] (by kernel_rfl) (by kernel_rfl) rfl rfl rfl ⟨?_, ?_, ?_, ?_, ?_, ?_, ?_, ?_, ?_, ?_, ?_, ?_, ?_, ?_, ?_, trivial⟩ ?_
        · refine ⟨rfl, IsR.mono _, fun a W hA hb hd => takes_plain rfl (yields_value _ ?_ rfl)⟩
          have h0 : a.tmps[0]?.getD undef = .pointer (some ⟨g, 0, none⟩) := (eval_get a 0).trans ((hA.eval (by simp)).trans rfl)
          go_simp
        · refine ⟨rfl, IsR.mono _, fun a W hA hb hd => takes_plain rfl (yields_value _ ?_ rfl)⟩
          have h67 : a.tmps[67]?.getD undef = .pointer (some ⟨g, 0, none⟩) := (eval_get a 67).trans (hd 0 (by simp) _ rfl)
          go_simp
        · refine ⟨rfl, IsR.mono _, fun a W hA hb hd => takes_plain rfl (yields_value _ ?_ rfl)⟩
          have h68 : a.tmps[68]?.getD undef = .pointer (some ⟨g, 0, none⟩) := (eval_get a 68).trans (hd 1 (by simp) _ rfl)
          go_simp
        · refine ⟨rfl, IsR.mono _, fun a W hA hb hd => takes_plain rfl (yields_value _ ?_ rfl)⟩
          have h69 : a.tmps[69]?.getD undef = .pointer (some ⟨g, 0, none⟩) := (eval_get a 69).trans (hd 2 (by simp) _ rfl)
          have hc : W.cell? ⟨g, 0, none⟩ = some (.slice (some ⟨gb, 0, none⟩) l.length cap) := (R3.out.box.ab hb).cell (k := 0) rfl
          go_simp
        · refine ⟨rfl, IsR.mono _, fun a W hA hb hd => takes_plain rfl (yields_value _ ?_ rfl)⟩
          have h11 : a.tmps[11]?.getD undef = .int .i64 (i : Int) := (eval_get a 11).trans ((hA.eval (by simp)).trans rfl)
          go_simp
        · refine ⟨rfl, IsR.mono _, fun a W hA hb hd => takes_plain rfl (yields_value _ ?_ rfl)⟩
          have h70 : a.tmps[70]?.getD undef = .slice (some ⟨gb, 0, none⟩) l.length cap := (eval_get a 70).trans (hd 3 (by simp) _ rfl)
          have h71 : a.tmps[71]?.getD undef = .int .i64 (i : Int) := (eval_get a 71).trans (hd 4 (by simp) _ rfl)
          go_simp
        · refine ⟨rfl, IsR.mono _, fun a W hA hb hd => takes_plain rfl (yields_value _ ?_ rfl)⟩
          have h72 : a.tmps[72]?.getD undef = .pointer (some ⟨gb, i * 3, none⟩) := (eval_get a 72).trans (hd 5 (by simp) _ rfl)
          go_simp
        · refine ⟨rfl, IsR.mono _, fun a W hA hb hd => takes_plain rfl (yields_value _ ?_ rfl)⟩
          have h73 : a.tmps[73]?.getD undef = .pointer (some ⟨gb, i * 3 + 2, none⟩) := (eval_get a 73).trans (hd 6 (by simp) _ rfl)
          have hc : W.cell? ⟨gb, i * 3 + 2, none⟩ = some (.slice kA k.length kc) := (World.cell?_of_block (hb.block _ GL.out)).trans C2.out
          go_simp
        · refine ⟨rfl, IsR.mono _, fun a W hA hb hd => takes_plain rfl (yields_value _ ?_ rfl)⟩
          have h9 : a.tmps[9]?.getD undef = .pointer (some ⟨w1.heap.size, 0, none⟩) := (eval_get a 9).trans ((hA.eval (by simp)).trans rfl)
          have hl := L3.out.ab hb
          have l0 := hl.cell (k := 0) rfl
          have l1 := hl.cell (k := 1) rfl
          have l2 := hl.cell (k := 2) rfl
          have l3 := hl.cell (k := 3) rfl
          have l4 := hl.cell (k := 4) rfl
          have l5 := hl.cell (k := 5) rfl
          go_simp
        · refine ⟨rfl, IsR.mono _, fun a W hA hb hd => takes_plain rfl (yields_value _ ?_ rfl)⟩
          have h2 : a.tmps[2]?.getD undef = .slice A 256 c := (eval_get a 2).trans ((hA.eval (by simp)).trans rfl)
          go_simp
        · refine ⟨rfl, TupB.mono _ _ _, fun a W hA hb hd => takes_plain rfl ?_⟩
          have h74 : a.tmps[74]?.getD undef = .slice kA k.length kc := (eval_get a 74).trans (hd 7 (by simp) _ rfl)
          have h75 : a.tmps[75]?.getD undef = .agg #[.int .u32 0, .int .u8 4, .int .u8 0, .int .u32 (s : Int), .int .u64 (cm : Int), .int .u16 (gn : Int)] := (eval_get a 75).trans (hd 8 (by simp) _ rfl)
          have h76 : a.tmps[76]?.getD undef = .slice A 256 c := (eval_get a 76).trans (hd 9 (by simp) _ rfl)
          refine yields_call 134 #[.slice kA k.length kc, .agg #[.int .u32 0, .int .u8 4, .int .u8 0, .int .u32 (s : Int), .int .u64 (cm : Int), .int .u16 (gn : Int)], .slice A 256 c] (by go_simp) ((HO.out _ _ W (K3.out.ab hb) _ _ (I3.out.ab hb)).mono ?_)
          rintro e W1 ⟨v4, rfl, hv, hb1⟩
          exact ⟨_, rfl, ⟨v4, rfl, hv.lower hb.size⟩, hb1⟩
        · refine ⟨rfl, TupB.mono _ _ _, fun a W hA hb hd => takes_plain rfl ?_⟩
          obtain ⟨v0, e0, ho⟩ := hd 10 (by simp) _ rfl
          have h0 : a.tmps[77]?.getD undef = .tuple #[v0, .int .i64 ((er : Nat) : Int)] := (eval_get a 77).trans e0
          refine yields_value (.tuple #[v0, .int .i64 ((er : Nat) : Int)]) ?_ ⟨v0, rfl, ho⟩
          go_simp
        · refine ⟨rfl, OwR.mono _ _, fun a W hA hb hd => takes_plain rfl ?_⟩
          obtain ⟨v0, e0, ho⟩ := hd 11 (by simp) _ rfl
          have h0 : a.tmps[66]?.getD undef = .tuple #[v0, .int .i64 ((er : Nat) : Int)] := (eval_get a 66).trans e0
          refine yields_value v0 ?_ ho
          go_simp
        · refine ⟨rfl, IsR.mono _, fun a W hA hb hd => takes_plain rfl ?_⟩
          obtain ⟨v0, e0, ho⟩ := hd 11 (by simp) _ rfl
          have h0 : a.tmps[66]?.getD undef = .tuple #[v0, .int .i64 ((er : Nat) : Int)] := (eval_get a 66).trans e0
          refine yields_value (.int .i64 (er : Int)) ?_ rfl
          go_simp
        · refine ⟨rfl, OwR.mono _ _, fun a W hA hb hd => takes_plain rfl ?_⟩
          have ho : OwB W w3.heap.size (a.eval (.tmp 78)) (pay) := hd 12 (by simp) _ rfl
          exact yields_value (a.eval (.tmp 78)) (exec_assign (.tmp 78) rfl W) ho
        intro vs w4 hR hF hb
        have hV : OwB w4 w3.heap.size (vs 12) pay := hR 14 _ rfl
        obtain ⟨A4, c4, e12, _, _⟩ := hV.shape
        rw [e12] at hV
        have e67 : vs 67 = .pointer (some ⟨g, 0, none⟩) := hR 0 _ rfl
        have e68 : vs 68 = .pointer (some ⟨g, 0, none⟩) := hR 1 _ rfl
        have e69 : vs 69 = .pointer (some ⟨g, 0, none⟩) := hR 2 _ rfl
        have e70 : vs 70 = .slice (some ⟨gb, 0, none⟩) l.length cap := hR 3 _ rfl
        have e71 : vs 71 = .int .i64 (i : Int) := hR 4 _ rfl
        have e72 : vs 72 = .pointer (some ⟨gb, i * 3, none⟩) := hR 5 _ rfl
        have e73 : vs 73 = .pointer (some ⟨gb, i * 3 + 2, none⟩) := hR 6 _ rfl
        have e74 : vs 74 = .slice kA k.length kc := hR 7 _ rfl
        have e75 : vs 75 = .agg #[.int .u32 0, .int .u8 4, .int .u8 0, .int .u32 (s : Int), .int .u64 (cm : Int), .int .u16 (gn : Int)] := hR 8 _ rfl
        have e76 : vs 76 = .slice A 256 c := hR 9 _ rfl
        have e79 : vs 79 = .int .i64 (er : Int) := hR 13 _ rfl
        simp only [List.map_cons, List.map_nil, List.foldl_cons, List.foldl_nil, List.length_cons, List.length_nil, List.drop_succ_cons, List.drop_zero, Act.put, List.setIfInBounds_toArray, List.set_cons_zero, List.set_cons_succ, e67, e68, e69, e70, e71, e72, e73, e74, e75, e76, e79, e12]
        have I4 := Lib.hid (hV.isB rfl)
        have Q4 : Hid (CbB _ w.heap.size 63 (mpv mp0)) := Lib.hid (Q3.out.ab hb)
        have N4 : Hid (CbB _ (w.heap.size + 1) 63 (mpv mp0)) := Lib.hid (N3.out.ab hb)
        have L4 := Lib.hid (L3.out.ab hb)
        have B4 := Lib.hid (below_tr B3.out hb B3.out.size)
        clear hR hF hb hV e12 e67 e68 e69 e70 e71 e72 e73 e74 e75 e76 e79 Q3 N3 L3 B3
        generalize vs 77 = q77
        generalize vs 66 = q66
        generalize vs 78 = q78
        obtain ⟨x0, x1, x2, x3, x4, x5, x6⟩ := MpB.zeros N4.out
        go_wp2_with ((with_reducible refine wpList_storeC (o := ⟨none, .store _ (.tmp 6) (.tmp 82), _, _, _, _⟩) rfl 63 (.tmp 6) (.tmp 82) ?_ w.heap.size ?_ (mpv mp0) ?_ (cs := mpv mp0) (t := 63) Q4.out (szMp _) ?_ (mpv_one _) ?_)
                     · exact rfl
                     · exact rfl
                     · exact rfl
                     · exact rfl
                     intro w5 hw5
                     have Q5 : Hid (MpB w5 w.heap.size mp0) := Lib.hid (by rw [hw5]; exact CbB.row Q4.out _)
                     have B5 : Hid (Below w.heap.size w w5) := Lib.hid (by rw [hw5]; exact Below.row B4.out (Nat.le_refl _) _)
                     clear hw5)
        exact bodyPost_ret (ropn_results _ w.heap.size _ mp0 60 rfl rfl Q5.out) rfl ⟨rfl, B5.out⟩
      · have t1 : ((er : Int) != 0) = false := by rw [her]; rfl
        rw [if_pos her]
        clear her
        obtain ⟨r, hrr⟩ : ∃ r : OpnR, r = (if der = 0 ∧ d0 = cm ∧ d5 = gn then ⟨⟨d0, d1, d2, d3, d4, d5, d6⟩, 0⟩ else ⟨mp0, 5⟩) := ⟨_, rfl⟩
        rw [← hrr]
        have HRR := Lib.hid hrr
        clear hrr
        go_enter Tryz.func89, Tryz.ntmps89
        go_wp2_with fail
        refine (HT.out _ (HI.out.ab B0.out)).mono ?_
        rintro e w1 ⟨rfl, hb⟩
        have Q1 := Lib.hid (Q0.out.ab hb)
        have N1 := Lib.hid (N0.out.ab hb)
        have B1 := Lib.hid (below_tr B0.out hb B0.out.size)
        have Z1 : Hid (w.heap.size + 1 < w1.heap.size) := Lib.hid N1.out.lt
        have ha : Below w1.heap.size w1 (w1.alloc (.cells #[.int .u32 0, .int .u8 4, .int .u8 0, .int .u32 0, .int .u64 (cm : Int), .int .u16 (gn : Int)] 149)) := (Below.refl _ _).alloc (Nat.le_refl _) _
        have L2 : Hid (CbB (w1.alloc (.cells #[.int .u32 0, .int .u8 4, .int .u8 0, .int .u32 0, .int .u64 (cm : Int), .int .u16 (gn : Int)] 149)) w1.heap.size 149 #[.int .u32 0, .int .u8 4, .int .u8 0, .int .u32 0, .int .u64 (cm : Int), .int .u16 (gn : Int)]) := Lib.hid (CbB.new _ _ _)
        have Q2 : Hid (CbB _ w.heap.size 63 (mpv mp0)) := Lib.hid (Q1.out.ab ha)
        have N2 : Hid (CbB _ (w.heap.size + 1) 63 (mpv mp0)) := Lib.hid (N1.out.ab ha)
        have B2 := Lib.hid (below_tr B1.out ha B1.out.size)
        have l0 := L2.out.cell (k := 0) rfl
        have l1 := L2.out.cell (k := 1) rfl
        have l2 := L2.out.cell (k := 2) rfl
        have l4 := L2.out.cell (k := 4) rfl
        have l5 := L2.out.cell (k := 5) rfl
        have f3 := L2.out.free 3
        clear hb ha
        go_wp2_with fail
        refine (HA.out _ (HR.out.ab B2.out)).mono ?_
        rintro e w' ⟨rfl, rfl⟩
        go_wp2_with fail
        have ha3 : Below w1.heap.size w1 (w1.alloc (.cells #[.int .u32 0, .int .u8 4, .int .u8 0, .int .u32 (s : Int), .int .u64 (cm : Int), .int .u16 (gn : Int)] 149)) := (Below.refl _ _).alloc (Nat.le_refl _) _
        have Q3 : Hid (CbB (w1.alloc (.cells #[.int .u32 0, .int .u8 4, .int .u8 0, .int .u32 (s : Int), .int .u64 (cm : Int), .int .u16 (gn : Int)] 149)) w.heap.size 63 (mpv mp0)) := Lib.hid (Q1.out.ab ha3)
        have N3 : Hid (CbB (w1.alloc (.cells #[.int .u32 0, .int .u8 4, .int .u8 0, .int .u32 (s : Int), .int .u64 (cm : Int), .int .u16 (gn : Int)] 149)) (w.heap.size + 1) 63 (mpv mp0)) := Lib.hid (N1.out.ab ha3)
        have L3 : Hid (CbB (w1.alloc (.cells #[.int .u32 0, .int .u8 4, .int .u8 0, .int .u32 (s : Int), .int .u64 (cm : Int), .int .u16 (gn : Int)] 149)) w1.heap.size 149 #[.int .u32 0, .int .u8 4, .int .u8 0, .int .u32 (s : Int), .int .u64 (cm : Int), .int .u16 (gn : Int)]) := Lib.hid (CbB.new _ _ _)
        have B3 := Lib.hid (below_tr B1.out ha3 B1.out.size)
        clear ha3
        clear l0 l1 l2 l4 l5 f3 Q2 N2 L2 B2 Q1 N1 B1
        generalize (w1.alloc (.cells #[.int .u32 0, .int .u8 4, .int .u8 0, .int .u32 (s : Int), .int .u64 (cm : Int), .int .u16 (gn : Int)] 149)) = w3 at *
        have R3 := Lib.hid (HR.out.ab B3.out)
        have I3 := Lib.hid (HI.out.ab B3.out)
        obtain ⟨gb, cap, hve, hgb, hgl, _, _, hcl⟩ := R3.out.form (by have := LL.out; omega)
        obtain ⟨u, _, _, c2, ho⟩ := hcl i _ HX.out
        obtain ⟨kA, kc, rfl, _, _⟩ := ho.shape
        subst hve
        have K3 := Lib.hid (ho.isB rfl)
        have C2 := Lib.hid c2
        have GL := Lib.hid hgl
        have hin : (i : Int) < (l.length : Int) := by have := LL.out; omega
        clear hcl ho c2 hgl hgb
        refine wp_wide3 [⟨67, IsR (.pointer (some ⟨g, 0, none⟩)), [], false⟩, ⟨68, IsR (.pointer (some ⟨g, 0, none⟩)), [0], false⟩, ⟨69, IsR (.pointer (some ⟨g, 0, none⟩)), [1], false⟩, ⟨70, IsR (.slice (some ⟨gb, 0, none⟩) l.length cap), [2], false⟩, ⟨71, IsR (.int .i64 (i : Int)), [], false⟩, ⟨72, IsR (.pointer (some ⟨gb, i * 3, none⟩)), [3, 4], false⟩, ⟨73, IsR (.pointer (some ⟨gb, i * 3 + 2, none⟩)), [5], false⟩, ⟨74, IsR (.slice kA k.length kc), [6], false⟩, ⟨75, IsR (.agg #[.int .u32 0, .int .u8 4, .int .u8 0, .int .u32 (s : Int), .int .u64 (cm : Int), .int .u16 (gn : Int)]), [], false⟩, ⟨76, IsR (.slice A 256 c), [], false⟩, ⟨77, TupB w3.heap.size er pay, [7, 8, 9], false⟩, ⟨66, TupB w3.heap.size er (pay), [10], false⟩, ⟨78, OwR w3.heap.size (pay), [11], false⟩, ⟨79, IsR (.int .i64 (er : Int)), [11], false⟩, ⟨12, OwR w3.heap.size (pay), [12], false⟩] (by kernel_rfl) (by kernel_rfl) rfl rfl rfl ⟨?_, ?_, ?_, ?_, ?_, ?_, ?_, ?_, ?_, ?_, ?_, ?_, ?_, ?_, ?_, trivial⟩ ?_
        · refine ⟨rfl, IsR.mono _, fun a W hA hb hd => takes_plain rfl (yields_value _ ?_ rfl)⟩
          have h0 : a.tmps[0]?.getD undef = .pointer (some ⟨g, 0, none⟩) := (eval_get a 0).trans ((hA.eval (by simp)).trans rfl)
          go_simp
        · refine ⟨rfl, IsR.mono _, fun a W hA hb hd => takes_plain rfl (yields_value _ ?_ rfl)⟩
          have h67 : a.tmps[67]?.getD undef = .pointer (some ⟨g, 0, none⟩) := (eval_get a 67).trans (hd 0 (by simp) _ rfl)
          go_simp
        · refine ⟨rfl, IsR.mono _, fun a W hA hb hd => takes_plain rfl (yields_value _ ?_ rfl)⟩
          have h68 : a.tmps[68]?.getD undef = .pointer (some ⟨g, 0, none⟩) := (eval_get a 68).trans (hd 1 (by simp) _ rfl)
          go_simp
        · refine ⟨rfl, IsR.mono _, fun a W hA hb hd => takes_plain rfl (yields_value _ ?_ rfl)⟩
          have h69 : a.tmps[69]?.getD undef = .pointer (some ⟨g, 0, none⟩) := (eval_get a 69).trans (hd 2 (by simp) _ rfl)
          have hc : W.cell? ⟨g, 0, none⟩ = some (.slice (some ⟨gb, 0, none⟩) l.length cap) := (R3.out.box.ab hb).cell (k := 0) rfl
          go_simp
        · refine ⟨rfl, IsR.mono _, fun a W hA hb hd => takes_plain rfl (yields_value _ ?_ rfl)⟩
          have h11 : a.tmps[11]?.getD undef = .int .i64 (i : Int) := (eval_get a 11).trans ((hA.eval (by simp)).trans rfl)
          go_simp
        · refine ⟨rfl, IsR.mono _, fun a W hA hb hd => takes_plain rfl (yields_value _ ?_ rfl)⟩
          have h70 : a.tmps[70]?.getD undef = .slice (some ⟨gb, 0, none⟩) l.length cap := (eval_get a 70).trans (hd 3 (by simp) _ rfl)
          have h71 : a.tmps[71]?.getD undef = .int .i64 (i : Int) := (eval_get a 71).trans (hd 4 (by simp) _ rfl)
          go_simp
        · refine ⟨rfl, IsR.mono _, fun a W hA hb hd => takes_plain rfl (yields_value _ ?_ rfl)⟩
          have h72 : a.tmps[72]?.getD undef = .pointer (some ⟨gb, i * 3, none⟩) := (eval_get a 72).trans (hd 5 (by simp) _ rfl)
          go_simp
        · refine ⟨rfl, IsR.mono _, fun a W hA hb hd => takes_plain rfl (yields_value _ ?_ rfl)⟩
          have h73 : a.tmps[73]?.getD undef = .pointer (some ⟨gb, i * 3 + 2, none⟩) := (eval_get a 73).trans (hd 6 (by simp) _ rfl)
          have hc : W.cell? ⟨gb, i * 3 + 2, none⟩ = some (.slice kA k.length kc) := (World.cell?_of_block (hb.block _ GL.out)).trans C2.out
          go_simp
        · refine ⟨rfl, IsR.mono _, fun a W hA hb hd => takes_plain rfl (yields_value _ ?_ rfl)⟩
          have h9 : a.tmps[9]?.getD undef = .pointer (some ⟨w1.heap.size, 0, none⟩) := (eval_get a 9).trans ((hA.eval (by simp)).trans rfl)
          have hl := L3.out.ab hb
          have l0 := hl.cell (k := 0) rfl
          have l1 := hl.cell (k := 1) rfl
          have l2 := hl.cell (k := 2) rfl
          have l3 := hl.cell (k := 3) rfl
          have l4 := hl.cell (k := 4) rfl
          have l5 := hl.cell (k := 5) rfl
          go_simp
        · refine ⟨rfl, IsR.mono _, fun a W hA hb hd => takes_plain rfl (yields_value _ ?_ rfl)⟩
          have h2 : a.tmps[2]?.getD undef = .slice A 256 c := (eval_get a 2).trans ((hA.eval (by simp)).trans rfl)
          go_simp
        · refine ⟨rfl, TupB.mono _ _ _, fun a W hA hb hd => takes_plain rfl ?_⟩
          have h74 : a.tmps[74]?.getD undef = .slice kA k.length kc := (eval_get a 74).trans (hd 7 (by simp) _ rfl)
          have h75 : a.tmps[75]?.getD undef = .agg #[.int .u32 0, .int .u8 4, .int .u8 0, .int .u32 (s : Int), .int .u64 (cm : Int), .int .u16 (gn : Int)] := (eval_get a 75).trans (hd 8 (by simp) _ rfl)
          have h76 : a.tmps[76]?.getD undef = .slice A 256 c := (eval_get a 76).trans (hd 9 (by simp) _ rfl)
          refine yields_call 134 #[.slice kA k.length kc, .agg #[.int .u32 0, .int .u8 4, .int .u8 0, .int .u32 (s : Int), .int .u64 (cm : Int), .int .u16 (gn : Int)], .slice A 256 c] (by go_simp) ((HO.out _ _ W (K3.out.ab hb) _ _ (I3.out.ab hb)).mono ?_)
          rintro e W1 ⟨v4, rfl, hv, hb1⟩
          exact ⟨_, rfl, ⟨v4, rfl, hv.lower hb.size⟩, hb1⟩
        · refine ⟨rfl, TupB.mono _ _ _, fun a W hA hb hd => takes_plain rfl ?_⟩
          obtain ⟨v0, e0, ho⟩ := hd 10 (by simp) _ rfl
          have h0 : a.tmps[77]?.getD undef = .tuple #[v0, .int .i64 ((er : Nat) : Int)] := (eval_get a 77).trans e0
          refine yields_value (.tuple #[v0, .int .i64 ((er : Nat) : Int)]) ?_ ⟨v0, rfl, ho⟩
          go_simp
        · refine ⟨rfl, OwR.mono _ _, fun a W hA hb hd => takes_plain rfl ?_⟩
          obtain ⟨v0, e0, ho⟩ := hd 11 (by simp) _ rfl
          have h0 : a.tmps[66]?.getD undef = .tuple #[v0, .int .i64 ((er : Nat) : Int)] := (eval_get a 66).trans e0
          refine yields_value v0 ?_ ho
          go_simp
        · refine ⟨rfl, IsR.mono _, fun a W hA hb hd => takes_plain rfl ?_⟩
          obtain ⟨v0, e0, ho⟩ := hd 11 (by simp) _ rfl
          have h0 : a.tmps[66]?.getD undef = .tuple #[v0, .int .i64 ((er : Nat) : Int)] := (eval_get a 66).trans e0
          refine yields_value (.int .i64 (er : Int)) ?_ rfl
          go_simp
        · refine ⟨rfl, OwR.mono _ _, fun a W hA hb hd => takes_plain rfl ?_⟩
          have ho : OwB W w3.heap.size (a.eval (.tmp 78)) (pay) := hd 12 (by simp) _ rfl
          exact yields_value (a.eval (.tmp 78)) (exec_assign (.tmp 78) rfl W) ho
        intro vs w4 hR hF hb
        have hV : OwB w4 w3.heap.size (vs 12) pay := hR 14 _ rfl
        obtain ⟨A4, c4, e12, _, _⟩ := hV.shape
        rw [e12] at hV
        have e67 : vs 67 = .pointer (some ⟨g, 0, none⟩) := hR 0 _ rfl
        have e68 : vs 68 = .pointer (some ⟨g, 0, none⟩) := hR 1 _ rfl
        have e69 : vs 69 = .pointer (some ⟨g, 0, none⟩) := hR 2 _ rfl
        have e70 : vs 70 = .slice (some ⟨gb, 0, none⟩) l.length cap := hR 3 _ rfl
        have e71 : vs 71 = .int .i64 (i : Int) := hR 4 _ rfl
        have e72 : vs 72 = .pointer (some ⟨gb, i * 3, none⟩) := hR 5 _ rfl
        have e73 : vs 73 = .pointer (some ⟨gb, i * 3 + 2, none⟩) := hR 6 _ rfl
        have e74 : vs 74 = .slice kA k.length kc := hR 7 _ rfl
        have e75 : vs 75 = .agg #[.int .u32 0, .int .u8 4, .int .u8 0, .int .u32 (s : Int), .int .u64 (cm : Int), .int .u16 (gn : Int)] := hR 8 _ rfl
        have e76 : vs 76 = .slice A 256 c := hR 9 _ rfl
        have e79 : vs 79 = .int .i64 (er : Int) := hR 13 _ rfl
        simp only [List.map_cons, List.map_nil, List.foldl_cons, List.foldl_nil, List.length_cons, List.length_nil, List.drop_succ_cons, List.drop_zero, Act.put, List.setIfInBounds_toArray, List.set_cons_zero, List.set_cons_succ, e67, e68, e69, e70, e71, e72, e73, e74, e75, e76, e79, e12]
        have I4 := Lib.hid (hV.isB rfl)
        have Q4 : Hid (CbB _ w.heap.size 63 (mpv mp0)) := Lib.hid (Q3.out.ab hb)
        have N4 : Hid (CbB _ (w.heap.size + 1) 63 (mpv mp0)) := Lib.hid (N3.out.ab hb)
        have L4 := Lib.hid (L3.out.ab hb)
        have B4 := Lib.hid (below_tr B3.out hb B3.out.size)
        clear hR hF hb hV e12 e67 e68 e69 e70 e71 e72 e73 e74 e75 e76 e79 Q3 N3 L3 B3
        generalize vs 77 = q77
        generalize vs 66 = q66
        generalize vs 78 = q78
        go_wp2_with fail
        refine (HD.out _ _ _ _ I4.out).mono ?_
        rintro e w5 ⟨rfl, hb⟩
        have hb2 : Below w4.heap.size w4 (w5.alloc (.cells #[.int .u64 (d0 : Int), .int .u32 (d1 : Int), .int .u64 (d2 : Int), .int .u16 (d3 : Int), .int .u8 (d4 : Int), .int .u16 (d5 : Int), .int .u32 (d6 : Int)] 63)) := hb.alloc hb.size _
        have Q6 : Hid (CbB (w5.alloc (.cells #[.int .u64 (d0 : Int), .int .u32 (d1 : Int), .int .u64 (d2 : Int), .int .u16 (d3 : Int), .int .u8 (d4 : Int), .int .u16 (d5 : Int), .int .u32 (d6 : Int)] 63)) w.heap.size 63 (mpv mp0)) := Lib.hid (Q4.out.ab hb2)
        have N6 : Hid (CbB (w5.alloc (.cells #[.int .u64 (d0 : Int), .int .u32 (d1 : Int), .int .u64 (d2 : Int), .int .u16 (d3 : Int), .int .u8 (d4 : Int), .int .u16 (d5 : Int), .int .u32 (d6 : Int)] 63)) (w.heap.size + 1) 63 (mpv mp0)) := Lib.hid (N4.out.ab hb2)
        have L6 : Hid (CbB (w5.alloc (.cells #[.int .u64 (d0 : Int), .int .u32 (d1 : Int), .int .u64 (d2 : Int), .int .u16 (d3 : Int), .int .u8 (d4 : Int), .int .u16 (d5 : Int), .int .u32 (d6 : Int)] 63)) w1.heap.size 149 #[.int .u32 0, .int .u8 4, .int .u8 0, .int .u32 (s : Int), .int .u64 (cm : Int), .int .u16 (gn : Int)]) := Lib.hid (L4.out.ab hb2)
        have B6 : Hid (Below w.heap.size w (w5.alloc (.cells #[.int .u64 (d0 : Int), .int .u32 (d1 : Int), .int .u64 (d2 : Int), .int .u16 (d3 : Int), .int .u8 (d4 : Int), .int .u16 (d5 : Int), .int .u32 (d6 : Int)] 63))) := Lib.hid (below_tr B4.out hb2 B4.out.size)
        have P6 : Hid (CbB (w5.alloc (.cells #[.int .u64 (d0 : Int), .int .u32 (d1 : Int), .int .u64 (d2 : Int), .int .u16 (d3 : Int), .int .u8 (d4 : Int), .int .u16 (d5 : Int), .int .u32 (d6 : Int)] 63)) w5.heap.size 63 (mpv ⟨d0, d1, d2, d3, d4, d5, d6⟩)) := Lib.hid (MpB.new w5 ⟨d0, d1, d2, d3, d4, d5, d6⟩)
        clear hb hb2 I4 Q4 N4 L4 B4 HD HO HA HT Q0 N0 B0 R3 I3 K3 C2 GL HX LL hin
        obtain ⟨x0, x1, x2, x3, x4, x5, x6⟩ := MpB.zeros N6.out
        obtain ⟨y0, y1, y2, y3, y4, y5, y6⟩ := MpB.cells P6.out
        have l4 := L6.out.cell (k := 4) rfl
        have l5 := L6.out.cell (k := 5) rfl
        simp only at y0 y1 y2 y3 y4 y5 y6
        by_cases hok : der = 0 ∧ d0 = cm ∧ d5 = gn
        · have HRE : Hid (r = ⟨⟨d0, d1, d2, d3, d4, d5, d6⟩, 0⟩) := Lib.hid (HRR.out.trans (if_pos hok))
          obtain ⟨rfl, rfl, rfl⟩ := hok
          clear HRR
          go_wp2_with ((with_reducible refine wpList_storeC (o := ⟨none, .store _ (.tmp 6) (.tmp 108), _, _, _, _⟩) rfl 63 (.tmp 6) (.tmp 108) ?_ w.heap.size ?_ (mpv ⟨d0, d1, d2, d3, d4, d5, d6⟩) ?_ (cs := mpv mp0) (t := 63) Q6.out (szMp _) ?_ (mpv_one _) ?_)
                       · exact rfl
                       · exact rfl
                       · exact rfl
                       · exact rfl
                       intro w7 hw5
                       have Q5 : Hid (MpB w7 w.heap.size ⟨d0, d1, d2, d3, d4, d5, d6⟩) := Lib.hid (by rw [hw5]; exact CbB.row Q6.out _)
                       have B5 : Hid (Below w.heap.size w w7) := Lib.hid (by rw [hw5]; exact Below.row B6.out (Nat.le_refl _) _)
                       clear hw5)
          exact bodyPost_ret (ropn_results _ w.heap.size _ ⟨d0, d1, d2, d3, d4, d5, d6⟩ 0 rfl rfl Q5.out) rfl ⟨by rw [HRE.out], B5.out⟩
        · have HRE : Hid (r = ⟨mp0, 5⟩) := Lib.hid (HRR.out.trans (if_neg hok))
          have hc : ((der : Int) != 0) = true ∨ (((der : Int) != 0) = false ∧ ((d0 : Int) != (cm : Int)) = true) ∨ (((der : Int) != 0) = false ∧ ((d0 : Int) != (cm : Int)) = false ∧ ((d5 : Int) != (gn : Int)) = true) := by
            by_cases f1 : der = 0
            · by_cases f2 : d0 = cm
              · right; right
                have : d5 ≠ gn := fun e => hok ⟨f1, f2, e⟩
                exact ⟨by simp [f1], by simp [f2], by simp; omega⟩
              · right; left
                exact ⟨by simp [f1], by simp; omega⟩
            · left
              simp [f1]
          clear hok HRR
          rcases hc with f1 | ⟨f1, f2⟩ | ⟨f1, f2, f3⟩
          all_goals
            go_wp2_with ((with_reducible refine wpList_storeC (o := ⟨none, .store _ (.tmp 6) (.tmp 107), _, _, _, _⟩) rfl 63 (.tmp 6) (.tmp 107) ?_ w.heap.size ?_ (mpv mp0) ?_ (cs := mpv mp0) (t := 63) Q6.out (szMp _) ?_ (mpv_one _) ?_)
                         · exact rfl
                         · exact rfl
                         · exact rfl
                         · exact rfl
                         intro w7 hw5
                         have Q5 : Hid (MpB w7 w.heap.size mp0) := Lib.hid (by rw [hw5]; exact CbB.row Q6.out _)
                         have B5 : Hid (Below w.heap.size w w7) := Lib.hid (by rw [hw5]; exact Below.row B6.out (Nat.le_refl _) _)
                         clear hw5)
            exact bodyPost_ret (ropn_results _ w.heap.size _ mp0 5 rfl rfl Q5.out) rfl ⟨by rw [HRE.out], B5.out⟩
  · rw [if_neg hh]
    generalize toldP b = t at *
    obtain ⟨k, lv, gn, cm, err⟩ := t
    simp only [headM, lab_cells] at hh HT
    have hc : ((err : Int) != 0) = true ∨ (((err : Int) != 0) = false ∧ ((k : Int) != 4) = true) ∨ (((err : Int) != 0) = false ∧ ((k : Int) != 4) = false ∧ ((lv : Int) != 0) = true) ∨ (((err : Int) != 0) = false ∧ ((k : Int) != 4) = false ∧ ((lv : Int) != 0) = false ∧ (((cm : Int) % 2) != (s : Int)) = true) := by
      by_cases e1 : err = 0
      · by_cases e2 : k = 4
        · by_cases e3 : lv = 0
          · right; right; right
            have : ¬ ((cm % 2 : Nat) : Int) = (s : Int) := fun e => hh ⟨e1, e2, e3, e⟩
            refine ⟨by simp [e1], by simp [e2], by simp [e3], ?_⟩
            simp
            omega
          · right; right; left
            exact ⟨by simp [e1], by simp [e2], by simp [e3]⟩
        · right; left
          exact ⟨by simp [e1], by simp; omega⟩
      · left
        simp [e1]
    clear hh hs hi hr h200
    rcases hc with f1 | ⟨f1, f2⟩ | ⟨f1, f2, f3⟩ | ⟨f1, f2, f3, f4⟩
    all_goals
      go_enter Tryz.func89, Tryz.ntmps89
      go_wp2_with fail
      refine (HT.out _ (HI.out.ab B0.out)).mono ?_
      rintro e w1 ⟨rfl, hb⟩
      have Q1 := Lib.hid (Q0.out.ab hb)
      have N1 := Lib.hid (N0.out.ab hb)
      have B1 := Lib.hid (below_tr B0.out hb B0.out.size)
      have Z1 : Hid (w.heap.size + 1 < w1.heap.size) := Lib.hid N1.out.lt
      have ha : Below w1.heap.size w1 (w1.alloc (.cells #[.int .u32 0, .int .u8 (k : Int), .int .u8 (lv : Int), .int .u32 0, .int .u64 (cm : Int), .int .u16 (gn : Int)] 149)) := (Below.refl _ _).alloc (Nat.le_refl _) _
      have L2 : Hid (CbB (w1.alloc (.cells #[.int .u32 0, .int .u8 (k : Int), .int .u8 (lv : Int), .int .u32 0, .int .u64 (cm : Int), .int .u16 (gn : Int)] 149)) w1.heap.size 149 #[.int .u32 0, .int .u8 (k : Int), .int .u8 (lv : Int), .int .u32 0, .int .u64 (cm : Int), .int .u16 (gn : Int)]) := Lib.hid (CbB.new _ _ _)
      have Q2 : Hid (CbB _ w.heap.size 63 (mpv mp0)) := Lib.hid (Q1.out.ab ha)
      have N2 := Lib.hid (N1.out.ab ha)
      have B2 := Lib.hid (below_tr B1.out ha B1.out.size)
      obtain ⟨x0, x1, x2, x3, x4, x5, x6⟩ := N2.out.zeros
      have l0 := L2.out.cell (k := 0) rfl
      have l1 := L2.out.cell (k := 1) rfl
      have l2 := L2.out.cell (k := 2) rfl
      have l3 := L2.out.cell (k := 3) rfl
      have l4 := L2.out.cell (k := 4) rfl
      have l5 := L2.out.cell (k := 5) rfl
      clear hb ha
      go_wp2_with ((with_reducible refine wpList_storeC (o := ⟨none, .store _ (.tmp 6) (.tmp 53), _, _, _, _⟩) rfl 63 (.tmp 6) (.tmp 53) ?_ w.heap.size ?_ (mpv mp0) ?_ (cs := mpv mp0) (t := 63) Q2.out (szMp _) ?_ (mpv_one _) ?_)
                   · exact rfl
                   · exact rfl
                   · exact rfl
                   · exact rfl
                   intro w5 hw5
                   have Q5 : Hid (MpB w5 w.heap.size mp0) := Lib.hid (by rw [hw5]; exact CbB.row Q2.out _)
                   have B5 : Hid (Below w.heap.size w w5) := Lib.hid (by rw [hw5]; exact Below.row B2.out (Nat.le_refl _) _)
                   clear hw5)
      exact bodyPost_ret (ropn_results _ w.heap.size _ mp0 100 rfl rfl Q5.out) rfl ⟨rfl, B5.out⟩
theorem rOpen_any (B g : Nat) (sl : Int) (v : Value) (vs : List ((Nat × Nat) × Value)) (l : RgL) (A : Option Addr) (n c : Nat) (b : List Nat) (w : World) (hr : RkB w B g v vs l) (h200 : l.length ≤ 1000) (hi : IsB w A n c b) :
    Calls Tryz.prog 89 #[.pointer (some ⟨g, 0, none⟩), .int .i64 sl, .slice A n c] w fun e w' => e = .returned (opnV (mOpenP l sl b)) ∧ Below w.heap.size w w' := by
  have hl := hi.len
  unfold mOpenP
  by_cases h : (sl = 0 ∨ sl = 1) ∧ b.length = 256
  · rw [if_pos h]
    obtain ⟨hs, h2⟩ := h
    obtain rfl : n = 256 := by omega
    obtain ⟨s, rfl, hs1⟩ : ∃ s : Nat, sl = (s : Int) ∧ s ≤ 1 := by
      rcases hs with rfl | rfl
      · exact ⟨0, rfl, by decide⟩
      · exact ⟨1, rfl, by decide⟩
    exact rOpen_ok B g s v vs l A c b w hr h200 hs1 hi
  · rw [if_neg h]
    exact rOpen_arg g sl A n c w (fun q => h ⟨q.1, by omega⟩)
end Go.Proofs.YtakgebbeknfplaaGreat
