/-
  WALK: IdealSteady returns true.
-/
import Derived.Test.YtnnjmelibmiimaaGreatBdx
import Derived.Test.YtnnjmelibmiimaaGreatBda
import Derived.JoinedOf
namespace Go.Proofs.YtnnjmelibmiimaaGreat
open Go.RowKit
set_option linter.unusedVariables false
set_option linter.unusedSimpArgs false

theorem BasB.ab {w w' : World} {A : Option Addr} {n c : Nat} {l : List BaP} (h : BasB w A n c l) (hb : Below w.heap.size w w') : BasB w' A n c l := ⟨h.len, h.le, h.max, fun i b hi => by
  obtain ⟨x, h1, h2, h3, h4⟩ := h.cel i b hi
  exact ⟨x, h1, Nat.lt_of_lt_of_le h2 hb.size, (World.cell?_of_block (hb.block _ (by rw [add_block]; exact h2))).trans h3, h4.ab hb⟩⟩
def AtB (W : World) (O : Tg) (g : Nat) (t : TypeId) (cs : Array Value) : Prop := CbB W g t cs ∧ O g = some (0, 0)
theorem AtB.stp {P : Nat × Nat → Prop} {w w' : World} {O O' : Tg} {g : Nat} {t : TypeId} {cs : Array Value} (h : AtB w O g t cs) (k : Stp P w O w' O') (hn : ¬ P (0, 0)) : AtB w' O' g t cs := box_stp h.1 h.2 k hn
theorem AtB.new (w : World) (O : Tg) (t : TypeId) (cs : Array Value) : AtB (w.alloc (.cells cs t)) (cutTg O w.heap.size) w.heap.size t cs := ⟨CbB.new w t cs, cutTg_at (Nat.le_refl _)⟩
section
variable {A B : Option Addr} {n c m d : Nat} {l1 l2 : List BaP} {w : World}
set_option maxRecDepth 100000 in
set_option maxHeartbeats 8000000 in
theorem steady_many (h1 : BasB w A n c l1) (h2 : BasB w B m d l2) (hn : 60 < n) :
    Calls Tryz.prog 4 #[.slice A n c, .slice B m d] w fun e w' => e = .returned (.bool true) ∧ Below w.heap.size w w' := by
  have n0 : decide ((60 : Int) < (n : Int)) = true := by simp; omega
  have HK := Lib.hid (known26_any w)
  clear h1 h2
  go_enter Tryz.func4, Tryz.ntmps4
  go_wp2_with fail
  refine HK.out.mono ?_
  rintro e w1 ⟨rfl, hb⟩
  have HB := Lib.hid hb
  clear hb HK
  go_wp2_with fail
  go_ret
  exact ⟨rfl, HB.out⟩
set_option maxRecDepth 100000 in
set_option maxHeartbeats 8000000 in
theorem steady_many2 (h1 : BasB w A n c l1) (h2 : BasB w B m d l2) (hn : n ≤ 60) (hm : 60 < m) :
    Calls Tryz.prog 4 #[.slice A n c, .slice B m d] w fun e w' => e = .returned (.bool true) ∧ Below w.heap.size w w' := by
  have n0 : decide ((60 : Int) < (n : Int)) = false := by simp; omega
  have n1 : decide ((60 : Int) < (m : Int)) = true := by simp; omega
  have n2 : (n : Int) ≤ 60 := by omega
  have HK := Lib.hid (known26_any w)
  clear h1 h2
  go_enter Tryz.func4, Tryz.ntmps4
  go_wp2_with fail
  refine HK.out.mono ?_
  rintro e w1 ⟨rfl, hb⟩
  have HB := Lib.hid hb
  clear hb HK
  go_wp2_with fail
  go_ret
  exact ⟨rfl, HB.out⟩
set_option maxRecDepth 100000 in
set_option maxHeartbeats 8000000 in
theorem steady_ok (h1 : BasB w A n c l1) (h2 : BasB w B m d l2) (hn : n ≤ 60) (hm : m ≤ 60) :
    Calls Tryz.prog 4 #[.slice A n c, .slice B m d] w fun e w' => e = .returned (.bool true) ∧ Below w.heap.size w w' := by
  have n0 : decide ((60 : Int) < (n : Int)) = false := by simp; omega
  have n1 : decide ((60 : Int) < (m : Int)) = false := by simp; omega
  have n2 : (n : Int) ≤ 60 := by omega
  have n3 : (m : Int) ≤ 60 := by omega
  have NN := Lib.hid hn
  have MM := Lib.hid hm
  have H1 := Lib.hid h1
  have H2 := Lib.hid h2
  have HN := Lib.hid (idNew_any 4096 (by decide) (by decide) w (fun _ => none))
  have HS := Lib.hid fun W => secret_any W
  have NS : Hid (¬ (((0, 0) : Nat × Nat).1 = w.heap.size + 1)) := Lib.hid (by show ¬ 0 = w.heap.size + 1; omega)
  have hf0 := fun e h sn n A1 n1 c1 A2 n2 c2 A3 n3 c3 w => run_fieldA e h sn n A1 n1 c1 A2 n2 c2 A3 n3 c3 0 _ rfl w
  have hf1 := fun e h sn n A1 n1 c1 A2 n2 c2 A3 n3 c3 w => run_fieldA e h sn n A1 n1 c1 A2 n2 c2 A3 n3 c3 1 _ rfl w
  have hf5 := fun e h sn n A1 n1 c1 A2 n2 c2 A3 n3 c3 w => run_fieldA e h sn n A1 n1 c1 A2 n2 c2 A3 n3 c3 5 _ rfl w
  clear h1 h2 hn hm
  go_enter Tryz.func4, Tryz.ntmps4
  go_wp2_with fail
  refine HN.out.mono ?_
  rintro e w1 ⟨rfl, ib, sz, hb⟩
  have K : Hid (KnG 4096 w (w.heap.size + 1) [] w1 (newTg (fun _ => none) w.heap.size (w.heap.size + 1))) := Lib.hid ⟨ib, hb, fun k hk => by unfold newTg; rw [if_neg (by omega)]⟩
  clear ib sz hb HN
  go_wp2_with fail
  refine (HS.out _).mono ?_
  rintro e w2 ⟨rfl, hs, hb⟩
  have K' := Lib.hid (K.out.ab hb)
  have IS := Lib.hid hs
  clear K hs hb
  have K := K'
  clear K'
  have HC := Lib.hid (K.out.call (c := stC1 w1.heap.size) (stC1_b IS.out) (fun t ht => by cases ht) (by simp) (st_1 _))
  unfold stC1 CallP.cs nilA at HC
  dsimp only at HC
  go_wp2_with fail
  refine HC.out.mono ?_
  rintro e v1 ⟨cs, Ov1, rfl, an, k, st⟩
  obtain ⟨A1v1, n1v1, c1v1, A2v1, n2v1, c2v1, A3v1, n3v1, c3v1, rfl, _⟩ := an.err
  have K' := Lib.hid k
  clear HC K k
  have K := K'
  clear K'
  clear st
  dsimp only [errA]
  clear IS
  go_wp2_with fail
  refine (HS.out _).mono ?_
  rintro e w4 ⟨rfl, hs, hb⟩
  have K' := Lib.hid (K.out.ab hb)
  have IS := Lib.hid hs
  clear K hs hb
  have K := K'
  clear K'
  have HC := Lib.hid (K.out.call (c := stC2 v1.heap.size) (stC2_b IS.out) (fun t ht => by simp only [List.mem_singleton] at ht; subst ht; exact ⟨by decide, by decide, fun p hp => (by cases hp), by decide⟩) (by simp) (st_2 _))
  unfold stC2 CallP.cs nilA at HC
  dsimp only at HC
  go_wp2_with fail
  refine HC.out.mono ?_
  rintro e v2 ⟨cs, Ov2, rfl, an, k, st⟩
  obtain ⟨A1v2, n1v2, c1v2, A2v2, n2v2, c2v2, A3v2, n3v2, c3v2, rfl, _⟩ := an.err
  have K' := Lib.hid k
  clear HC K k
  have K := K'
  clear K'
  clear st
  have hdv : ((hdA stH).hd : Int) = 30064771073 := rfl
  rw [hdv]
  clear hdv IS an
  go_upto_region 8 with (fail)
  have ba : Below v2.heap.size v2 (v2.alloc (.cells #[.int .i64 13, .int .u32 0, .slice none 0 0, .int .i64 0, .int .i64 100, .int .u64 30064771073, .int .u64 0, .int .u64 0, .int .u8 0, .slice none 0 0, .slice none 0 0, .slice none 0 0, .slice none 0 0, .bool false] 36)) := (Below.refl _ _).alloc (Nat.le_refl _) _
  have k := K.out.ab ba
  have XAn : AtB (v2.alloc (.cells #[.int .i64 13, .int .u32 0, .slice none 0 0, .int .i64 0, .int .i64 100, .int .u64 30064771073, .int .u64 0, .int .u64 0, .int .u8 0, .slice none 0 0, .slice none 0 0, .slice none 0 0, .slice none 0 0, .bool false] 36)) (cutTg Ov2 v2.heap.size) v2.heap.size 36 #[.int .i64 13, .int .u32 0, .slice none 0 0, .int .i64 0, .int .i64 100, .int .u64 30064771073, .int .u64 0, .int .u64 0, .int .u8 0, .slice none 0 0, .slice none 0 0, .slice none 0 0, .slice none 0 0, .bool false] := AtB.new v2 Ov2 _ _
  obtain ⟨Ov3, hOv3⟩ : ∃ Ox, cutTg Ov2 v2.heap.size = Ox := ⟨_, rfl⟩
  rw [hOv3] at k  XAn
  clear hOv3
  obtain ⟨v3, hv3⟩ : ∃ v3, (v2.alloc (.cells #[.int .i64 13, .int .u32 0, .slice none 0 0, .int .i64 0, .int .i64 100, .int .u64 30064771073, .int .u64 0, .int .u64 0, .int .u8 0, .slice none 0 0, .slice none 0 0, .slice none 0 0, .slice none 0 0, .bool false] 36)) = v3 := ⟨_, rfl⟩
  rw [hv3] at k  XAn ⊢
  have K' := Lib.hid k
  clear K k
  have K := K'
  clear K' ba hv3
  have XA := Lib.hid XAn
  clear XAn
  obtain ⟨gA, hgA⟩ : ∃ g, v2.heap.size = g := ⟨_, rfl⟩
  rw [hgA] at XA ⊢
  clear hgA
  go_wp2_with fail
  go_loopw [9] (fun z wr => ∃ i : Nat, i ≤ n ∧ z = .int .i64 (i : Int) ∧ ∃ O S, KnG 4096 w (w.heap.size + 1) [stT S []] wr O ∧ S.length ≤ 0 + 100 * i ∧ AtB wr O gA 36 #[.int .i64 13, .int .u32 0, .slice none 0 0, .int .i64 0, .int .i64 100, .int .u64 30064771073, .int .u64 0, .int .u64 0, .int .u8 0, .slice none 0 0, .slice none 0 0, .slice none 0 0, .slice none 0 0, .bool false]) (fun z _ => n - (intOf z).toNat)
  case atStart => exact ⟨0, Nat.zero_le _, rfl, _, _, K.out, by simp, XA.out⟩
  case round =>
    obtain ⟨i, hi, rfl, O, S, k, hS, xa⟩ := hrel
    have K := Lib.hid k
    have SL := Lib.hid hS
    have XA := Lib.hid xa
    clear k hS xa
    by_cases hlt : i < n
    · obtain ⟨b, hb⟩ : ∃ b, l1[i]? = some b := ⟨_, List.getElem?_eq_getElem (by rw [H1.out.len]; exact hlt)⟩
      obtain ⟨x, hx, hxl, hc, ho⟩ := (H1.out.ab K.out.bl).cel i b hb
      rw [hx] at *
      have OB := Lib.hid ho
      obtain ⟨an, S', hst, hSl⟩ := st_B S [] b ho.len
      have HST := Lib.hid hst
      have HSL := Lib.hid hSl
      have KL := Lib.hid hlt
      have hlti : (i : Int) < (n : Int) := by omega
      have hi0 : (0 : Int) ≤ (i : Int) := by omega
      have HC := Lib.hid (K.out.call (c := stCB b) (stCB_b OB.out) (st_lim (by have := SL.out; have := NN.out; omega) (by simp) (fun p hp => by cases hp)) (by simp) HST.out)
      unfold stCB stH CallP.cs nilA at HC
      dsimp only at HC
      clear hb ho hst hSl hi hlt
      go_wp2_with fail
      refine HC.out.mono ?_
      rintro e w9 ⟨cs, O', rfl, an', k9, st⟩
      have XA9 := Lib.hid (XA.out.stp st NS.out)
      have K9 := Lib.hid k9
      clear HC k9 st an' hc
      go_wp2_with fail
      go_roundw
      case rel => exact ⟨i + 1, KL.out, by go_num, O', S', K9.out, by have := HSL.out; have := SL.out; omega, XA9.out⟩
      case measure => simp [intOf]; have := KL.out; omega
    · obtain rfl : i = n := by omega
      clear hi hlt
      have xaz0 : wr.cell? ⟨gA, 0, none⟩ = some (.int .i64 13) := XA.out.1.cell (k := 0) rfl
      have xaz1 : wr.cell? ⟨gA, 1, none⟩ = some (.int .u32 0) := XA.out.1.cell (k := 1) rfl
      have xaz2 : wr.cell? ⟨gA, 2, none⟩ = some (.slice none 0 0) := XA.out.1.cell (k := 2) rfl
      have xaz3 : wr.cell? ⟨gA, 3, none⟩ = some (.int .i64 0) := XA.out.1.cell (k := 3) rfl
      have xaz4 : wr.cell? ⟨gA, 4, none⟩ = some (.int .i64 100) := XA.out.1.cell (k := 4) rfl
      have xaz5 : wr.cell? ⟨gA, 5, none⟩ = some (.int .u64 30064771073) := XA.out.1.cell (k := 5) rfl
      have xaz6 : wr.cell? ⟨gA, 6, none⟩ = some (.int .u64 0) := XA.out.1.cell (k := 6) rfl
      have xaz7 : wr.cell? ⟨gA, 7, none⟩ = some (.int .u64 0) := XA.out.1.cell (k := 7) rfl
      have xaz8 : wr.cell? ⟨gA, 8, none⟩ = some (.int .u8 0) := XA.out.1.cell (k := 8) rfl
      have xaz9 : wr.cell? ⟨gA, 9, none⟩ = some (.slice none 0 0) := XA.out.1.cell (k := 9) rfl
      have xaz10 : wr.cell? ⟨gA, 10, none⟩ = some (.slice none 0 0) := XA.out.1.cell (k := 10) rfl
      have xaz11 : wr.cell? ⟨gA, 11, none⟩ = some (.slice none 0 0) := XA.out.1.cell (k := 11) rfl
      have xaz12 : wr.cell? ⟨gA, 12, none⟩ = some (.slice none 0 0) := XA.out.1.cell (k := 12) rfl
      have xaz13 : wr.cell? ⟨gA, 13, none⟩ = some (.bool false) := XA.out.1.cell (k := 13) rfl
      have SB : Hid (S.length ≤ 6000) := Lib.hid (by have := SL.out; have := NN.out; omega)
      clear SL
      have HC := Lib.hid (K.out.call (c := stCK 13 100 0) (stCK_b (show ckOk _ from rfl) (by decide)) (st_lim (by have := SB.out; omega) (by simp) (fun p hp => by cases hp)) (by simp) (st_scan0 S []))
      unfold stCK stH CallP.cs nilA at HC
      dsimp only at HC
      go_wp2_with fail
      refine HC.out.mono ?_
      rintro e v4 ⟨cs, Ov4, rfl, an, k, st⟩
      obtain ⟨A1v4, n1v4, c1v4, A2v4, n2v4, c2v4, A3v4, n3v4, c3v4, rfl, _⟩ := an.err
      have XAn := XA.out.stp st NS.out
      have K' := Lib.hid k
      clear HC K k
      have K := K'
      clear K'
      have XA := Lib.hid XAn
      clear XAn
      clear st
      clear xaz0 xaz1 xaz2 xaz3 xaz4 xaz5 xaz6 xaz7 xaz8 xaz9 xaz10 xaz11 xaz12 xaz13
      have AW := Lib.hid an
      clear an
      rw [show ((prsA (prsK S (stK S))).hd : Int) = 0 from rfl, show ((prsA (prsK S (stK S))).sn : Int) = 0 from rfl]
      dsimp only [prsA]
      go_upto_region 13 with (fail)
      have ba : Below v4.heap.size v4 (v4.alloc (.cells #[.int .i64 0, .int .u64 0, .int .u64 0, .slice A1v4 n1v4 c1v4, .slice A2v4 n2v4 c2v4, .int .i64 0, .slice A3v4 n3v4 c3v4] 40)) := (Below.refl _ _).alloc (Nat.le_refl _) _
      have k := K.out.ab ba
      have XAn := XA.out.stp (Stp.cut ba (fun τ => τ.1 = w.heap.size + 1)) NS.out
      have AWn := AW.out.stp (Stp.cut ba (fun τ => τ.1 = w.heap.size + 1)) NS.out
      have XWn : AtB (v4.alloc (.cells #[.int .i64 0, .int .u64 0, .int .u64 0, .slice A1v4 n1v4 c1v4, .slice A2v4 n2v4 c2v4, .int .i64 0, .slice A3v4 n3v4 c3v4] 40)) (cutTg Ov4 v4.heap.size) v4.heap.size 40 #[.int .i64 0, .int .u64 0, .int .u64 0, .slice A1v4 n1v4 c1v4, .slice A2v4 n2v4 c2v4, .int .i64 0, .slice A3v4 n3v4 c3v4] := AtB.new v4 Ov4 _ _
      obtain ⟨Ov5, hOv5⟩ : ∃ Ox, cutTg Ov4 v4.heap.size = Ox := ⟨_, rfl⟩
      rw [hOv5] at k XAn AWn XWn
      clear hOv5
      obtain ⟨v5, hv5⟩ : ∃ v5, (v4.alloc (.cells #[.int .i64 0, .int .u64 0, .int .u64 0, .slice A1v4 n1v4 c1v4, .slice A2v4 n2v4 c2v4, .int .i64 0, .slice A3v4 n3v4 c3v4] 40)) = v5 := ⟨_, rfl⟩
      rw [hv5] at k XAn AWn XWn ⊢
      have K' := Lib.hid k
      clear K k
      have K := K'
      clear K' ba hv5
      have XA := Lib.hid XAn
      clear XAn
      have AW := Lib.hid AWn
      clear AWn
      have XW := Lib.hid XWn
      clear XWn
      obtain ⟨gW, hgW⟩ : ∃ g, v4.heap.size = g := ⟨_, rfl⟩
      rw [hgW] at XW ⊢
      clear hgW
      rcases st_snap S with hsn | hsn
      · have HSN := Lib.hid hsn
        clear hsn
        have HC := Lib.hid (K.out.call (c := stCK 14 0 0) (stCK_b (show ckOk _ from rfl) (by decide)) (st_lim (by have := SB.out; omega) (by simp) (fun p hp => by cases hp)) (by simp) (HSN.out))
        unfold stCK stH CallP.cs nilA at HC
        dsimp only at HC
        go_wp2_with fail
        refine HC.out.mono ?_
        rintro e v6 ⟨cs, Ov6, rfl, an, k, st⟩
        obtain ⟨A1v6, n1v6, c1v6, A2v6, n2v6, c2v6, A3v6, n3v6, c3v6, rfl, _⟩ := an.err
        have XAn := XA.out.stp st NS.out
        have AWn := AW.out.stp st NS.out
        have XWn := XW.out.stp st NS.out
        have K' := Lib.hid k
        clear HC K k
        have K := K'
        clear K'
        have XA := Lib.hid XAn
        clear XAn
        have AW := Lib.hid AWn
        clear AWn
        have XW := Lib.hid XWn
        clear XWn
        clear st
        dsimp only [errA]
        clear an
        have HK := Lib.hid fun W => known26_any W
        go_wp2_with fail
        refine (HK.out _).mono ?_
        rintro e w9 ⟨rfl, hb⟩
        have BB := Lib.hid (below_tr (K.out.bl.alloc K.out.bl.size _) hb (K.out.bl.alloc K.out.bl.size _).size)
        clear hb HK
        go_wp2_with fail
        go_ret
        exact ⟨rfl, BB.out⟩
      · have HSN := Lib.hid hsn
        clear hsn
        have HC := Lib.hid (K.out.call (c := stCK 14 0 0) (stCK_b (show ckOk _ from rfl) (by decide)) (st_lim (by have := SB.out; omega) (by simp) (fun p hp => by cases hp)) (by simp) (HSN.out))
        unfold stCK stH CallP.cs nilA at HC
        dsimp only at HC
        go_wp2_with fail
        refine HC.out.mono ?_
        rintro e v6 ⟨cs, Ov6, rfl, an, k, st⟩
        obtain ⟨A1v6, n1v6, c1v6, A2v6, n2v6, c2v6, A3v6, n3v6, c3v6, rfl, _⟩ := an.err
        have XAn := XA.out.stp st NS.out
        have AWn := AW.out.stp st NS.out
        have XWn := XW.out.stp st NS.out
        have K' := Lib.hid k
        clear HC K k
        have K := K'
        clear K'
        have XA := Lib.hid XAn
        clear XAn
        have AW := Lib.hid AWn
        clear AWn
        have XW := Lib.hid XWn
        clear XWn
        clear st
        rw [show ((snA 1).sn : Int) = 1 from rfl, show ((snA 1).hd : Int) = 0 from rfl]
        dsimp only [snA]
        clear an
        go_upto_region 14 with (fail)
        have ba : Below v6.heap.size v6 (v6.alloc (.cells #[.int .i64 0, .int .u64 0, .int .u64 1, .slice A1v6 n1v6 c1v6, .slice A2v6 n2v6 c2v6, .int .i64 0, .slice A3v6 n3v6 c3v6] 40)) := (Below.refl _ _).alloc (Nat.le_refl _) _
        have k := K.out.ab ba
        have XAn := XA.out.stp (Stp.cut ba (fun τ => τ.1 = w.heap.size + 1)) NS.out
        have AWn := AW.out.stp (Stp.cut ba (fun τ => τ.1 = w.heap.size + 1)) NS.out
        have XWn := XW.out.stp (Stp.cut ba (fun τ => τ.1 = w.heap.size + 1)) NS.out
        have XNn : AtB (v6.alloc (.cells #[.int .i64 0, .int .u64 0, .int .u64 1, .slice A1v6 n1v6 c1v6, .slice A2v6 n2v6 c2v6, .int .i64 0, .slice A3v6 n3v6 c3v6] 40)) (cutTg Ov6 v6.heap.size) v6.heap.size 40 #[.int .i64 0, .int .u64 0, .int .u64 1, .slice A1v6 n1v6 c1v6, .slice A2v6 n2v6 c2v6, .int .i64 0, .slice A3v6 n3v6 c3v6] := AtB.new v6 Ov6 _ _
        obtain ⟨Ov7, hOv7⟩ : ∃ Ox, cutTg Ov6 v6.heap.size = Ox := ⟨_, rfl⟩
        rw [hOv7] at k XAn AWn XWn XNn
        clear hOv7
        obtain ⟨v7, hv7⟩ : ∃ v7, (v6.alloc (.cells #[.int .i64 0, .int .u64 0, .int .u64 1, .slice A1v6 n1v6 c1v6, .slice A2v6 n2v6 c2v6, .int .i64 0, .slice A3v6 n3v6 c3v6] 40)) = v7 := ⟨_, rfl⟩
        rw [hv7] at k XAn AWn XWn XNn ⊢
        have K' := Lib.hid k
        clear K k
        have K := K'
        clear K' ba hv7
        have XA := Lib.hid XAn
        clear XAn
        have AW := Lib.hid AWn
        clear AWn
        have XW := Lib.hid XWn
        clear XWn
        have XN := Lib.hid XNn
        clear XNn
        obtain ⟨gN, hgN⟩ : ∃ g, v6.heap.size = g := ⟨_, rfl⟩
        rw [hgN] at XN ⊢
        clear hgN
        have xn0 : v7.cell? ⟨gN, 0, none⟩ = some (.int .i64 0) := XN.out.1.cell (k := 0) rfl
        obtain ⟨X, hX⟩ : ∃ X, S = X := ⟨_, rfl⟩
        rw [hX] at K AW SB
        have XB := SB
        clear hX SB HSN

        obtain ⟨cAW, AW1⟩ : ∃ cc, AnsB v7 cc _ #[.int .i64 0, .int .u64 0, .int .u64 0, .slice A1v4 n1v4 c1v4, .slice A2v4 n2v4 c2v4, .int .i64 0, .slice A3v4 n3v4 c3v4] (prsA (prsK X (stK X))) := ⟨_, AW.out⟩
        have AW := Lib.hid AW1
        clear AW1
        go_wp2_with fail
        go_loopw [12] (fun z wr => ∃ i : Nat, i ≤ m ∧ z = .int .i64 (i : Int) ∧ ∃ O S, KnG 4096 w (w.heap.size + 1) [stT S [(X, false)]] wr O ∧ S.length ≤ 6000 + 100 * i ∧ AtB wr O gA 36 #[.int .i64 13, .int .u32 0, .slice none 0 0, .int .i64 0, .int .i64 100, .int .u64 30064771073, .int .u64 0, .int .u64 0, .int .u8 0, .slice none 0 0, .slice none 0 0, .slice none 0 0, .slice none 0 0, .bool false] ∧ AnsB wr cAW O #[.int .i64 0, .int .u64 0, .int .u64 0, .slice A1v4 n1v4 c1v4, .slice A2v4 n2v4 c2v4, .int .i64 0, .slice A3v4 n3v4 c3v4] (prsA (prsK X (stK X))) ∧ AtB wr O gW 40 #[.int .i64 0, .int .u64 0, .int .u64 0, .slice A1v4 n1v4 c1v4, .slice A2v4 n2v4 c2v4, .int .i64 0, .slice A3v4 n3v4 c3v4] ∧ AtB wr O gN 40 #[.int .i64 0, .int .u64 0, .int .u64 1, .slice A1v6 n1v6 c1v6, .slice A2v6 n2v6 c2v6, .int .i64 0, .slice A3v6 n3v6 c3v6]) (fun z _ => m - (intOf z).toNat)
        case atStart => exact ⟨0, Nat.zero_le _, rfl, _, _, K.out, by have := XB.out; omega, XA.out, AW.out, XW.out, XN.out⟩
        case round =>
          obtain ⟨i, hi, rfl, O, S, k, hS, xa, aw, xw, xn⟩ := hrel
          have K := Lib.hid k
          have SL := Lib.hid hS
          have XA := Lib.hid xa
          have AW := Lib.hid aw
          have XW := Lib.hid xw
          have XN := Lib.hid xn
          clear k hS xa aw xw xn
          by_cases hlt : i < m
          · obtain ⟨b, hb⟩ : ∃ b, l2[i]? = some b := ⟨_, List.getElem?_eq_getElem (by rw [H2.out.len]; exact hlt)⟩
            obtain ⟨x, hx, hxl, hc, ho⟩ := (H2.out.ab K.out.bl).cel i b hb
            rw [hx] at *
            have OB := Lib.hid ho
            obtain ⟨an, S', hst, hSl⟩ := st_B S [(X, false)] b ho.len
            have HST := Lib.hid hst
            have HSL := Lib.hid hSl
            have KL := Lib.hid hlt
            have hlti : (i : Int) < (m : Int) := by omega
            have hi0 : (0 : Int) ≤ (i : Int) := by omega
            have HC := Lib.hid (K.out.call (c := stCB b) (stCB_b OB.out) (st_lim (by have := SL.out; have := MM.out; have := XB.out; omega) (by simp) (fun p hp => by simp only [List.mem_singleton] at hp; subst hp; have := XB.out; show X.length ≤ _; omega)) (by simp) HST.out)
            unfold stCB stH CallP.cs nilA at HC
            dsimp only at HC
            clear hb ho hst hSl hi hlt
            go_wp2_with fail
            refine HC.out.mono ?_
            rintro e w9 ⟨cs, O', rfl, an', k9, st⟩
            have XA9 := Lib.hid (XA.out.stp st NS.out)
            have AW9 := Lib.hid (AW.out.stp st NS.out)
            have XW9 := Lib.hid (XW.out.stp st NS.out)
            have XN9 := Lib.hid (XN.out.stp st NS.out)
            have K9 := Lib.hid k9
            clear HC k9 st an' hc
            go_wp2_with fail
            go_roundw
            case rel => exact ⟨i + 1, KL.out, by go_num, O', S', K9.out, by have := HSL.out; have := SL.out; omega, XA9.out, AW9.out, XW9.out, XN9.out⟩
            case measure => simp [intOf]; have := KL.out; omega
          · obtain rfl : i = m := by omega
            clear hi hlt
            have SB : Hid (S.length ≤ 12000) := Lib.hid (by have := SL.out; have := MM.out; omega)
            clear SL
            have xaz0 : wr.cell? ⟨gA, 0, none⟩ = some (.int .i64 13) := XA.out.1.cell (k := 0) rfl
            have xaz1 : wr.cell? ⟨gA, 1, none⟩ = some (.int .u32 0) := XA.out.1.cell (k := 1) rfl
            have xaz2 : wr.cell? ⟨gA, 2, none⟩ = some (.slice none 0 0) := XA.out.1.cell (k := 2) rfl
            have xaz3 : wr.cell? ⟨gA, 3, none⟩ = some (.int .i64 0) := XA.out.1.cell (k := 3) rfl
            have xaz4 : wr.cell? ⟨gA, 4, none⟩ = some (.int .i64 100) := XA.out.1.cell (k := 4) rfl
            have xaz5 : wr.cell? ⟨gA, 5, none⟩ = some (.int .u64 30064771073) := XA.out.1.cell (k := 5) rfl
            have xaz6 : wr.cell? ⟨gA, 6, none⟩ = some (.int .u64 0) := XA.out.1.cell (k := 6) rfl
            have xaz7 : wr.cell? ⟨gA, 7, none⟩ = some (.int .u64 0) := XA.out.1.cell (k := 7) rfl
            have xaz8 : wr.cell? ⟨gA, 8, none⟩ = some (.int .u8 0) := XA.out.1.cell (k := 8) rfl
            have xaz9 : wr.cell? ⟨gA, 9, none⟩ = some (.slice none 0 0) := XA.out.1.cell (k := 9) rfl
            have xaz10 : wr.cell? ⟨gA, 10, none⟩ = some (.slice none 0 0) := XA.out.1.cell (k := 10) rfl
            have xaz11 : wr.cell? ⟨gA, 11, none⟩ = some (.slice none 0 0) := XA.out.1.cell (k := 11) rfl
            have xaz12 : wr.cell? ⟨gA, 12, none⟩ = some (.slice none 0 0) := XA.out.1.cell (k := 12) rfl
            have xaz13 : wr.cell? ⟨gA, 13, none⟩ = some (.bool false) := XA.out.1.cell (k := 13) rfl
            have xn2 : ∀ o, (wr.alloc o).cell? ⟨gN, 2, none⟩ = some (.int .u64 1) := fun o => (XN.out.1.ab ((Below.refl _ _).alloc (Nat.le_refl _) o)).cell (k := 2) rfl
            go_upto_region 22 with (fail)
            clear xn2 xaz0 xaz1 xaz2 xaz3 xaz4 xaz5 xaz6 xaz7 xaz8 xaz9 xaz10 xaz11 xaz12 xaz13
            have ba : Below wr.heap.size wr (wr.alloc (.cells #[.int .i64 13, .int .u32 0, .slice none 0 0, .int .i64 0, .int .i64 100, .int .u64 30064771073, .int .u64 0, .int .u64 1, .int .u8 0, .slice none 0 0, .slice none 0 0, .slice none 0 0, .slice none 0 0, .bool false] 36)) := (Below.refl _ _).alloc (Nat.le_refl _) _
            have k := K.out.ab ba
            have XAn := XA.out.stp (Stp.cut ba (fun τ => τ.1 = w.heap.size + 1)) NS.out
            have AWn := AW.out.stp (Stp.cut ba (fun τ => τ.1 = w.heap.size + 1)) NS.out
            have XWn := XW.out.stp (Stp.cut ba (fun τ => τ.1 = w.heap.size + 1)) NS.out
            have XNn := XN.out.stp (Stp.cut ba (fun τ => τ.1 = w.heap.size + 1)) NS.out
            have XOn : AtB (wr.alloc (.cells #[.int .i64 13, .int .u32 0, .slice none 0 0, .int .i64 0, .int .i64 100, .int .u64 30064771073, .int .u64 0, .int .u64 1, .int .u8 0, .slice none 0 0, .slice none 0 0, .slice none 0 0, .slice none 0 0, .bool false] 36)) (cutTg O wr.heap.size) wr.heap.size 36 #[.int .i64 13, .int .u32 0, .slice none 0 0, .int .i64 0, .int .i64 100, .int .u64 30064771073, .int .u64 0, .int .u64 1, .int .u8 0, .slice none 0 0, .slice none 0 0, .slice none 0 0, .slice none 0 0, .bool false] := AtB.new wr O _ _
            obtain ⟨Ov8, hOv8⟩ : ∃ Ox, cutTg O wr.heap.size = Ox := ⟨_, rfl⟩
            rw [hOv8] at k XAn AWn XWn XNn XOn
            clear hOv8
            obtain ⟨v8, hv8⟩ : ∃ v8, (wr.alloc (.cells #[.int .i64 13, .int .u32 0, .slice none 0 0, .int .i64 0, .int .i64 100, .int .u64 30064771073, .int .u64 0, .int .u64 1, .int .u8 0, .slice none 0 0, .slice none 0 0, .slice none 0 0, .slice none 0 0, .bool false] 36)) = v8 := ⟨_, rfl⟩
            rw [hv8] at k XAn AWn XWn XNn XOn ⊢
            have K' := Lib.hid k
            clear K k
            have K := K'
            clear K' ba hv8
            have XA := Lib.hid XAn
            clear XAn
            have AW := Lib.hid AWn
            clear AWn
            have XW := Lib.hid XWn
            clear XWn
            have XN := Lib.hid XNn
            clear XNn
            have XO := Lib.hid XOn
            clear XOn
            obtain ⟨gO, hgO⟩ : ∃ g, wr.heap.size = g := ⟨_, rfl⟩
            rw [hgO] at XO ⊢
            clear hgO
            have xoz0 : v8.cell? ⟨gO, 0, none⟩ = some (.int .i64 13) := XO.out.1.cell (k := 0) rfl
            have xoz1 : v8.cell? ⟨gO, 1, none⟩ = some (.int .u32 0) := XO.out.1.cell (k := 1) rfl
            have xoz2 : v8.cell? ⟨gO, 2, none⟩ = some (.slice none 0 0) := XO.out.1.cell (k := 2) rfl
            have xoz3 : v8.cell? ⟨gO, 3, none⟩ = some (.int .i64 0) := XO.out.1.cell (k := 3) rfl
            have xoz4 : v8.cell? ⟨gO, 4, none⟩ = some (.int .i64 100) := XO.out.1.cell (k := 4) rfl
            have xoz5 : v8.cell? ⟨gO, 5, none⟩ = some (.int .u64 30064771073) := XO.out.1.cell (k := 5) rfl
            have xoz6 : v8.cell? ⟨gO, 6, none⟩ = some (.int .u64 0) := XO.out.1.cell (k := 6) rfl
            have xoz7 : v8.cell? ⟨gO, 7, none⟩ = some (.int .u64 1) := XO.out.1.cell (k := 7) rfl
            have xoz8 : v8.cell? ⟨gO, 8, none⟩ = some (.int .u8 0) := XO.out.1.cell (k := 8) rfl
            have xoz9 : v8.cell? ⟨gO, 9, none⟩ = some (.slice none 0 0) := XO.out.1.cell (k := 9) rfl
            have xoz10 : v8.cell? ⟨gO, 10, none⟩ = some (.slice none 0 0) := XO.out.1.cell (k := 10) rfl
            have xoz11 : v8.cell? ⟨gO, 11, none⟩ = some (.slice none 0 0) := XO.out.1.cell (k := 11) rfl
            have xoz12 : v8.cell? ⟨gO, 12, none⟩ = some (.slice none 0 0) := XO.out.1.cell (k := 12) rfl
            have xoz13 : v8.cell? ⟨gO, 13, none⟩ = some (.bool false) := XO.out.1.cell (k := 13) rfl
            have HC := Lib.hid (K.out.call (c := stCK 13 100 1) (stCK_b (show ckOk _ from rfl) (by decide)) (st_lim (by have := SB.out; omega) (by simp) (fun p hp => by simp only [List.mem_singleton] at hp; subst hp; have := XB.out; show X.length ≤ _; omega)) (by simp) (st_scan1 S X))
            unfold stCK stH CallP.cs nilA at HC
            dsimp only at HC
            go_wp2_with fail
            refine HC.out.mono ?_
            rintro e v9 ⟨cs, Ov9, rfl, an, k, st⟩
            obtain ⟨A1v9, n1v9, c1v9, A2v9, n2v9, c2v9, A3v9, n3v9, c3v9, rfl, _⟩ := an.err
            have XAn := XA.out.stp st NS.out
            have AWn := AW.out.stp st NS.out
            have XWn := XW.out.stp st NS.out
            have XNn := XN.out.stp st NS.out
            have XOn := XO.out.stp st NS.out
            have K' := Lib.hid k
            clear HC K k
            have K := K'
            clear K'
            have XA := Lib.hid XAn
            clear XAn
            have AW := Lib.hid AWn
            clear AWn
            have XW := Lib.hid XWn
            clear XWn
            have XN := Lib.hid XNn
            clear XNn
            have XO := Lib.hid XOn
            clear XOn
            clear st
            clear xoz0 xoz1 xoz2 xoz3 xoz4 xoz5 xoz6 xoz7 xoz8 xoz9 xoz10 xoz11 xoz12 xoz13
            have AS := Lib.hid an
            clear an
            dsimp only [prsA]
            go_upto_region 23 with (fail)
            have ba : Below v9.heap.size v9 (v9.alloc (.cells #[.int .i64 0, .int .u64 0, .int .u64 0, .slice A1v9 n1v9 c1v9, .slice A2v9 n2v9 c2v9, .int .i64 0, .slice A3v9 n3v9 c3v9] 40)) := (Below.refl _ _).alloc (Nat.le_refl _) _
            have k := K.out.ab ba
            have XAn := XA.out.stp (Stp.cut ba (fun τ => τ.1 = w.heap.size + 1)) NS.out
            have AWn := AW.out.stp (Stp.cut ba (fun τ => τ.1 = w.heap.size + 1)) NS.out
            have XWn := XW.out.stp (Stp.cut ba (fun τ => τ.1 = w.heap.size + 1)) NS.out
            have XNn := XN.out.stp (Stp.cut ba (fun τ => τ.1 = w.heap.size + 1)) NS.out
            have XOn := XO.out.stp (Stp.cut ba (fun τ => τ.1 = w.heap.size + 1)) NS.out
            have ASn := AS.out.stp (Stp.cut ba (fun τ => τ.1 = w.heap.size + 1)) NS.out
            have XSn : AtB (v9.alloc (.cells #[.int .i64 0, .int .u64 0, .int .u64 0, .slice A1v9 n1v9 c1v9, .slice A2v9 n2v9 c2v9, .int .i64 0, .slice A3v9 n3v9 c3v9] 40)) (cutTg Ov9 v9.heap.size) v9.heap.size 40 #[.int .i64 0, .int .u64 0, .int .u64 0, .slice A1v9 n1v9 c1v9, .slice A2v9 n2v9 c2v9, .int .i64 0, .slice A3v9 n3v9 c3v9] := AtB.new v9 Ov9 _ _
            obtain ⟨Ov10, hOv10⟩ : ∃ Ox, cutTg Ov9 v9.heap.size = Ox := ⟨_, rfl⟩
            rw [hOv10] at k XAn AWn XWn XNn XOn ASn XSn
            clear hOv10
            obtain ⟨v10, hv10⟩ : ∃ v10, (v9.alloc (.cells #[.int .i64 0, .int .u64 0, .int .u64 0, .slice A1v9 n1v9 c1v9, .slice A2v9 n2v9 c2v9, .int .i64 0, .slice A3v9 n3v9 c3v9] 40)) = v10 := ⟨_, rfl⟩
            rw [hv10] at k XAn AWn XWn XNn XOn ASn XSn ⊢
            have K' := Lib.hid k
            clear K k
            have K := K'
            clear K' ba hv10
            have XA := Lib.hid XAn
            clear XAn
            have AW := Lib.hid AWn
            clear AWn
            have XW := Lib.hid XWn
            clear XWn
            have XN := Lib.hid XNn
            clear XNn
            have XO := Lib.hid XOn
            clear XOn
            have AS := Lib.hid ASn
            clear ASn
            have XS := Lib.hid XSn
            clear XSn
            obtain ⟨gS, hgS⟩ : ∃ g, v9.heap.size = g := ⟨_, rfl⟩
            rw [hgS] at XS ⊢
            clear hgS
            have HC := Lib.hid (K.out.call (c := stCK 16 0 0) (stCK_b (show ckOk _ from rfl) (by decide)) (st_lim (by have := SB.out; omega) (by simp) (fun p hp => by simp only [List.mem_singleton] at hp; subst hp; have := XB.out; show X.length ≤ _; omega)) (by simp) (st_use S X false))
            unfold stCK stH CallP.cs nilA at HC
            dsimp only at HC
            go_wp2_with fail
            refine HC.out.mono ?_
            rintro e v11 ⟨cs, Ov11, rfl, an, k, st⟩
            obtain ⟨A1v11, n1v11, c1v11, A2v11, n2v11, c2v11, A3v11, n3v11, c3v11, rfl, _⟩ := an.err
            have XAn := XA.out.stp st NS.out
            have AWn := AW.out.stp st NS.out
            have XWn := XW.out.stp st NS.out
            have XNn := XN.out.stp st NS.out
            have XOn := XO.out.stp st NS.out
            have ASn := AS.out.stp st NS.out
            have XSn := XS.out.stp st NS.out
            have K' := Lib.hid k
            clear HC K k
            have K := K'
            clear K'
            have XA := Lib.hid XAn
            clear XAn
            have AW := Lib.hid AWn
            clear AWn
            have XW := Lib.hid XWn
            clear XWn
            have XN := Lib.hid XNn
            clear XNn
            have XO := Lib.hid XOn
            clear XOn
            have AS := Lib.hid ASn
            clear ASn
            have XS := Lib.hid XSn
            clear XSn
            clear st
            clear an
            obtain ⟨u1, hu1⟩ : ∃ u, (cntA (chg S + (bif false then 0 else chg X + 1))).cnt = u := ⟨_, rfl⟩
            have U1 := Lib.hid hu1
            rw [hu1]
            clear hu1
            dsimp only [cntA]
            go_upto_region 24 with (fail)
            have yw0 : v11.cell? ⟨gW, 0, none⟩ = some (.int .i64 0) := XW.out.1.cell (k := 0) rfl
            have yw1 : v11.cell? ⟨gW, 1, none⟩ = some (.int .u64 0) := XW.out.1.cell (k := 1) rfl
            have yw2 : v11.cell? ⟨gW, 2, none⟩ = some (.int .u64 0) := XW.out.1.cell (k := 2) rfl
            have yw3 : v11.cell? ⟨gW, 3, none⟩ = some (.slice A1v4 n1v4 c1v4) := XW.out.1.cell (k := 3) rfl
            have yw4 : v11.cell? ⟨gW, 4, none⟩ = some (.slice A2v4 n2v4 c2v4) := XW.out.1.cell (k := 4) rfl
            have yw5 : v11.cell? ⟨gW, 5, none⟩ = some (.int .i64 0) := XW.out.1.cell (k := 5) rfl
            have yw6 : v11.cell? ⟨gW, 6, none⟩ = some (.slice A3v4 n3v4 c3v4) := XW.out.1.cell (k := 6) rfl
            have ys0 : v11.cell? ⟨gS, 0, none⟩ = some (.int .i64 0) := XS.out.1.cell (k := 0) rfl
            have ys1 : v11.cell? ⟨gS, 1, none⟩ = some (.int .u64 0) := XS.out.1.cell (k := 1) rfl
            have ys2 : v11.cell? ⟨gS, 2, none⟩ = some (.int .u64 0) := XS.out.1.cell (k := 2) rfl
            have ys3 : v11.cell? ⟨gS, 3, none⟩ = some (.slice A1v9 n1v9 c1v9) := XS.out.1.cell (k := 3) rfl
            have ys4 : v11.cell? ⟨gS, 4, none⟩ = some (.slice A2v9 n2v9 c2v9) := XS.out.1.cell (k := 4) rfl
            have ys5 : v11.cell? ⟨gS, 5, none⟩ = some (.int .i64 0) := XS.out.1.cell (k := 5) rfl
            have ys6 : v11.cell? ⟨gS, 6, none⟩ = some (.slice A3v9 n3v9 c3v9) := XS.out.1.cell (k := 6) rfl
            have yn0 : v11.cell? ⟨gN, 0, none⟩ = some (.int .i64 0) := XN.out.1.cell (k := 0) rfl
            have PL : Hid ((prsK X (stK X)).length ≤ 1000000) := Lib.hid (by unfold prsK; rw [List.length_map]; unfold stK scanK; have := List.length_take_le (stCK 13 100 0).n.toNat (bif (stCK 13 100 0).back then ((kysK X).filter fun k => !delP (stCK 13 100 0).frm.l (stCK 13 100 0).upto.l k).reverse else (kysK X).filter fun k => !delP (stCK 13 100 0).frm.l (stCK 13 100 0).upto.l k); have h9 : (stCK 13 100 0).n.toNat = 100 := rfl; omega)
            have HSM := Lib.hid (ansSame_yes v11 _ _ _ _ _ _ (prsA (prsK X (stK X))) AS.out AW.out PL.out (by show 0 ≤ 1000000; decide) (fun x hx => by cases hx))
            dsimp only [prsA] at HSM
            go_wp2_with fail
            refine HSM.out.mono ?_
            rintro e w9 ⟨rfl, hb⟩
            have k := K.out.ab hb
            have XAn := XA.out.stp (Stp.cut hb (fun τ => τ.1 = w.heap.size + 1)) NS.out
            have AWn := AW.out.stp (Stp.cut hb (fun τ => τ.1 = w.heap.size + 1)) NS.out
            have XWn := XW.out.stp (Stp.cut hb (fun τ => τ.1 = w.heap.size + 1)) NS.out
            have XNn := XN.out.stp (Stp.cut hb (fun τ => τ.1 = w.heap.size + 1)) NS.out
            have XOn := XO.out.stp (Stp.cut hb (fun τ => τ.1 = w.heap.size + 1)) NS.out
            have ASn := AS.out.stp (Stp.cut hb (fun τ => τ.1 = w.heap.size + 1)) NS.out
            have XSn := XS.out.stp (Stp.cut hb (fun τ => τ.1 = w.heap.size + 1)) NS.out
            have K' := Lib.hid k
            clear HSM K k hb yw0 ys0 yw1 ys1 yw2 ys2 yw3 ys3 yw4 ys4 yw5 ys5 yw6 ys6 yn0
            have K := K'
            clear K'
            have XA := Lib.hid XAn
            clear XAn
            have AW := Lib.hid AWn
            clear AWn
            have XW := Lib.hid XWn
            clear XWn
            have XN := Lib.hid XNn
            clear XNn
            have XO := Lib.hid XOn
            clear XOn
            have AS := Lib.hid ASn
            clear ASn
            have XS := Lib.hid XSn
            clear XSn
            have yn2 : w9.cell? ⟨gN, 2, none⟩ = some (.int .u64 1) := XN.out.1.cell (k := 2) rfl
            have HC := Lib.hid (K.out.call (c := stCK 15 0 1) (stCK_b (show ckOk _ from rfl) (by decide)) (st_lim (by have := SB.out; omega) (by simp) (fun p hp => by simp only [List.mem_singleton] at hp; subst hp; have := XB.out; show X.length ≤ _; omega)) (by simp) (st_rel S X))
            unfold stCK stH CallP.cs nilA at HC
            dsimp only at HC
            go_wp2_with fail
            refine HC.out.mono ?_
            rintro e v12 ⟨cs, Ov12, rfl, an, k, st⟩
            obtain ⟨A1v12, n1v12, c1v12, A2v12, n2v12, c2v12, A3v12, n3v12, c3v12, rfl, _⟩ := an.err
            have XAn := XA.out.stp st NS.out
            have AWn := AW.out.stp st NS.out
            have XWn := XW.out.stp st NS.out
            have XNn := XN.out.stp st NS.out
            have XOn := XO.out.stp st NS.out
            have ASn := AS.out.stp st NS.out
            have XSn := XS.out.stp st NS.out
            have K' := Lib.hid k
            clear HC K k
            have K := K'
            clear K'
            have XA := Lib.hid XAn
            clear XAn
            have AW := Lib.hid AWn
            clear AWn
            have XW := Lib.hid XWn
            clear XWn
            have XN := Lib.hid XNn
            clear XNn
            have XO := Lib.hid XOn
            clear XOn
            have AS := Lib.hid ASn
            clear ASn
            have XS := Lib.hid XSn
            clear XSn
            clear st
            dsimp only [errA]
            clear an yn2
            have xoz0 : v12.cell? ⟨gO, 0, none⟩ = some (.int .i64 13) := XO.out.1.cell (k := 0) rfl
            have xoz1 : v12.cell? ⟨gO, 1, none⟩ = some (.int .u32 0) := XO.out.1.cell (k := 1) rfl
            have xoz2 : v12.cell? ⟨gO, 2, none⟩ = some (.slice none 0 0) := XO.out.1.cell (k := 2) rfl
            have xoz3 : v12.cell? ⟨gO, 3, none⟩ = some (.int .i64 0) := XO.out.1.cell (k := 3) rfl
            have xoz4 : v12.cell? ⟨gO, 4, none⟩ = some (.int .i64 100) := XO.out.1.cell (k := 4) rfl
            have xoz5 : v12.cell? ⟨gO, 5, none⟩ = some (.int .u64 30064771073) := XO.out.1.cell (k := 5) rfl
            have xoz6 : v12.cell? ⟨gO, 6, none⟩ = some (.int .u64 0) := XO.out.1.cell (k := 6) rfl
            have xoz7 : v12.cell? ⟨gO, 7, none⟩ = some (.int .u64 1) := XO.out.1.cell (k := 7) rfl
            have xoz8 : v12.cell? ⟨gO, 8, none⟩ = some (.int .u8 0) := XO.out.1.cell (k := 8) rfl
            have xoz9 : v12.cell? ⟨gO, 9, none⟩ = some (.slice none 0 0) := XO.out.1.cell (k := 9) rfl
            have xoz10 : v12.cell? ⟨gO, 10, none⟩ = some (.slice none 0 0) := XO.out.1.cell (k := 10) rfl
            have xoz11 : v12.cell? ⟨gO, 11, none⟩ = some (.slice none 0 0) := XO.out.1.cell (k := 11) rfl
            have xoz12 : v12.cell? ⟨gO, 12, none⟩ = some (.slice none 0 0) := XO.out.1.cell (k := 12) rfl
            have xoz13 : v12.cell? ⟨gO, 13, none⟩ = some (.bool false) := XO.out.1.cell (k := 13) rfl
            have HC := Lib.hid (K.out.call (c := stCK 13 100 1) (stCK_b (show ckOk _ from rfl) (by decide)) (st_lim (by have := SB.out; omega) (by simp) (fun p hp => by simp only [List.mem_singleton] at hp; subst hp; have := XB.out; show X.length ≤ _; omega)) (by simp) (st_scan2 S X))
            unfold stCK stH CallP.cs nilA at HC
            dsimp only at HC
            go_wp2_with fail
            refine HC.out.mono ?_
            rintro e v13 ⟨cs, Ov13, rfl, an, k, st⟩
            obtain ⟨A1v13, n1v13, c1v13, A2v13, n2v13, c2v13, A3v13, n3v13, c3v13, rfl, _⟩ := an.err
            have XAn := XA.out.stp st NS.out
            have AWn := AW.out.stp st NS.out
            have XWn := XW.out.stp st NS.out
            have XNn := XN.out.stp st NS.out
            have XOn := XO.out.stp st NS.out
            have ASn := AS.out.stp st NS.out
            have XSn := XS.out.stp st NS.out
            have K' := Lib.hid k
            clear HC K k
            have K := K'
            clear K'
            have XA := Lib.hid XAn
            clear XAn
            have AW := Lib.hid AWn
            clear AWn
            have XW := Lib.hid XWn
            clear XWn
            have XN := Lib.hid XNn
            clear XNn
            have XO := Lib.hid XOn
            clear XOn
            have AS := Lib.hid ASn
            clear ASn
            have XS := Lib.hid XSn
            clear XSn
            clear st
            dsimp only [errA]
            clear an xoz0 xoz1 xoz2 xoz3 xoz4 xoz5 xoz6 xoz7 xoz8 xoz9 xoz10 xoz11 xoz12 xoz13
            have HC := Lib.hid (K.out.call (c := stCK 16 0 0) (stCK_b (show ckOk _ from rfl) (by decide)) (st_lim (by have := SB.out; omega) (by simp) (fun p hp => by simp only [List.mem_singleton] at hp; subst hp; have := XB.out; show X.length ≤ _; omega)) (by simp) (st_use S X true))
            unfold stCK stH CallP.cs nilA at HC
            dsimp only at HC
            go_wp2_with fail
            refine HC.out.mono ?_
            rintro e v14 ⟨cs, Ov14, rfl, an, k, st⟩
            obtain ⟨A1v14, n1v14, c1v14, A2v14, n2v14, c2v14, A3v14, n3v14, c3v14, rfl, _⟩ := an.err
            have XAn := XA.out.stp st NS.out
            have AWn := AW.out.stp st NS.out
            have XWn := XW.out.stp st NS.out
            have XNn := XN.out.stp st NS.out
            have XOn := XO.out.stp st NS.out
            have ASn := AS.out.stp st NS.out
            have XSn := XS.out.stp st NS.out
            have K' := Lib.hid k
            clear HC K k
            have K := K'
            clear K'
            have XA := Lib.hid XAn
            clear XAn
            have AW := Lib.hid AWn
            clear AWn
            have XW := Lib.hid XWn
            clear XWn
            have XN := Lib.hid XNn
            clear XNn
            have XO := Lib.hid XOn
            clear XOn
            have AS := Lib.hid ASn
            clear ASn
            have XS := Lib.hid XSn
            clear XSn
            clear st
            clear an
            obtain ⟨u2, hu2⟩ : ∃ u, (cntA (chg S + (bif true then 0 else chg X + 1))).cnt = u := ⟨_, rfl⟩
            have hlt2 : decide (u2 < u1) = true := by
              have h3 := chg_bd X
              have h4 := U1.out
              simp only [cntA, cond_false, cond_true] at h4 hu2
              simp only [decide_eq_true_eq]
              omega
            have hlt3 : u2 < u1 := of_decide_eq_true hlt2
            rw [hu2]
            clear hu2
            dsimp only [cntA]
            have HK := Lib.hid fun W => known26_any W
            go_wp2_with fail
            refine (HK.out _).mono ?_
            rintro e w10 ⟨rfl, hb⟩
            have BB := Lib.hid (below_tr K.out.bl hb K.out.bl.size)
            clear hb HK
            go_wp2_with fail
            go_ret
            exact ⟨rfl, BB.out⟩
end
set_option maxRecDepth 100000 in
theorem steady_walk (u v : Value) (w : World) (hk0 : ∃ base, Value.okWide Tryz.prog w .any base 45 u) {H : Type} {enc : TypeId × Value → H} {d0 : DataW H} {p0 : List MemPlace} (hd0 : DataW.Trod enc Tryz.prog w 0 (fun _ => true) true 45 u d0 p0) (hp0 : ∀ x ∈ p0, x.block < w.heap.size)
    (hk : ∃ base, Value.okWide Tryz.prog w .any base 45 v) {d : DataW H} {p : List MemPlace} (hd : DataW.Trod enc Tryz.prog w 0 (fun _ => true) true 45 v d p) (hp : ∀ x ∈ p, x.block < w.heap.size) :
    Calls Tryz.prog 4 #[u, v] w fun e w' => e = .returned (.bool true) ∧ Below w.heap.size w w' := by
  obtain ⟨base, hk⟩ := hk
  obtain ⟨base0, hk0⟩ := hk0
  obtain ⟨A, n, c, l1, rfl, h1⟩ := open_bas hk0 hd0 hp0
  obtain ⟨B, m, d2, l2, rfl, h2⟩ := open_bas hk hd hp
  by_cases hn : n ≤ 60
  · by_cases hm : m ≤ 60
    · exact steady_ok h1 h2 hn hm
    · exact steady_many2 h1 h2 hn (by omega)
  · exact steady_many h1 h2 (by omega)
end Go.Proofs.YtnnjmelibmiimaaGreat
namespace Go.Proofs.YtnnjmelibmiimaaGreat
open Go.ChangeShapes Go.WideShapes Go.ChangeAt Go.RowKit

theorem make_of {P : Program} {l : List Char} (h : P.initOrder = String.ofList l) (hw : (match behindMainWord (wordsSigns l) with | c :: _ => !(c == "gc".toList || c == "spec".toList) && c == "cut".toList | [] => false) = true) : P.make = some .cut := by
  unfold Program.make
  rw [h, String.toList_ofList]
  revert hw
  generalize behindMainWord (wordsSigns l) = W
  cases W with
  | nil => intro hw; cases hw
  | cons c r =>
    intro hw
    simp only [Bool.and_eq_true, Bool.not_eq_true'] at hw
    simp only [hw.1, hw.2, Bool.true_or, if_true]
    rfl
theorem lifts_of {P : Program} {l : List Char} (h : P.initOrder = String.ofList l) (hw : (!((behindMainWord (wordsSigns l)).head? == some "carried".toList) && (stripLifts liftWords (behindMainWord (wordsSigns l))).1.isEmpty) = true) : P.liftsFinal = false := by
  unfold Program.liftsFinal Program.headLifts
  rw [h, String.toList_ofList]
  revert hw
  generalize behindMainWord (wordsSigns l) = W
  intro hw
  simp only [Bool.and_eq_true, Bool.not_eq_true', List.isEmpty_iff] at hw
  simp only [hw.1, hw.2, Bool.false_and, Bool.false_or]
  split <;> rfl
theorem enter_of {P : Program} {l : List Char} (h : P.initOrder = String.ofList l) (hw : (match behindMainWord (wordsSigns l) with | c :: rest => ((stripLifts liftWords (c :: rest)).2.head? == some "cut".toList && (stripLifts liftWords (c :: rest)).1.isEmpty) | [] => false) = true)
    (hl : P.laysLater = false) (hr : P.bearsReflect = false) (hd : P.doorRows = []) : P.mayEnter = true := by
  unfold Program.mayEnter Program.doorFits
  rw [h, String.toList_ofList]
  revert hw
  generalize behindMainWord (wordsSigns l) = W
  cases W with
  | nil => intro hw; cases hw
  | cons c r =>
    intro hw
    simp only [Bool.and_eq_true, List.isEmpty_iff] at hw
    simp only [hw.1, hw.2, hl, hr, hd]
    simp
set_option maxRecDepth 1000000 in
theorem J.make : Tryz.checked.prog.make = some .cut := make_of rfl (by kernel_rfl)
set_option maxRecDepth 1000000 in
theorem J.lifts : Tryz.checked.prog.liftsFinal = false := lifts_of rfl (by kernel_rfl)
set_option maxRecDepth 1000000 in
theorem J.enter : Tryz.checked.prog.mayEnter = true := enter_of rfl (by kernel_rfl) (by kernel_rfl) (by kernel_rfl) (by kernel_rfl)
theorem joined_of {P : Program} {f : FuncId} {fn : Func} {s : ChangeSpec} {c : OpenClaim} (h1 : P.mayEnter = true) (h2 : P.liftsFinal = false) (h3 : P.make = some .cut) (h4 : c.lifted = false) (h5 : c.make = .cut)
    (h : (c.wf (OpenSpec.ofChange s) && laidOutB P && mapsRowed P &&
      fn.params.all (P.readableRec ·) && namedTie P c.named s.vars &&
      (c.stops == []) && (P.stops == []) && (c.knobs == []) && (P.stopKnobs == []) &&
      (c.inPlace == P.inPlace f) && (c.unfollowed == P.unfollowed f) && (c.recurses == P.recurses f) && (c.named == P.varsNamed f) &&
      (c.maps == (fn.params.toList ++ s.plain.varTypes P).any (P.mapsRec ·)) && (c.ifaces == (fn.params.toList ++ s.plain.varTypes P).any (P.ifacesRec ·)) && (c.mapsOut == P.mapsAmong fn.resultTypes.toList) &&
      (c.loops == (fn.params.toList ++ s.plain.varTypes P).any (P.loopsFrom ·)) && (c.wideKeys == (fn.params.toList ++ s.plain.varTypes P ++ fn.resultTypes.toList).any (P.wideKeysFrom ·)) &&
      s.vars.all (P.varReadable ·) && fn.resultTypes.all (fun t => P.readableRec t && decide (t < P.types.size)) && (c.ifacesOut == fn.resultTypes.toList.any (P.ifacesRec ·)) && (c.loopsOut == fn.resultTypes.toList.any (P.loopsFrom ·)) && (c.plainKeys == P.plainKeys) && c.shortTexts.isNone && P.stopsHeard) = true)
    (k : ((c.kinds == (if c.domain.isEmpty then [] else fn.params.toList.map fun t => match P.underlying t with | some (.int k) => some k | _ => none)) && (c.pinned == c.pinnedBy) &&
      (c.veiled == (fn.params.toList ++ s.plain.varTypes P ++ fn.resultTypes.toList).any (P.veiledRec ·)) && c.veiledFits P fn.params.toList (fn.params.toList ++ s.plain.varTypes P ++ fn.resultTypes.toList)) = true) : joinedFacts P f fn s c = true := by
  unfold joinedFacts
  rw [h, h1, h2, h3, h4, h5]
  simp only [Bool.true_and]
  simp only [Bool.and_eq_true] at k
  simp only [Bool.and_eq_true, k, and_true]
  exact ⟨⟨rfl, by decide⟩, k.1.1.1⟩
end Go.Proofs.YtnnjmelibmiimaaGreat
