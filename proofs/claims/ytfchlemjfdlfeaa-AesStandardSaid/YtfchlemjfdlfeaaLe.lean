/-
  WALKS of the laws of layer 3: AesWords.
-/
import Derived.Test.YtfchlemjfdlfeaaLc
import Derived.Test.YtfchlemjfdlfeaaAppL
namespace Go.Proofs.Ytfchlemjfdlfeaa
open Go.RowKit
set_option linter.unusedVariables false

theorem words_any (K n : Nat) (l : List Nat) (A : Option Addr) (c : Nat) (w : World) (hK : K = 4 ∨ K = 8) (hn : n = 4 * K) (hin : IsB w A n c l) :
    Calls Try.prog 19 #[.slice A n c] w fun e w' => e = .returned (.tuple #[.slice (some ⟨w.heap.size, 0, none⟩) (4 * (K + 7)) (4 * (K + 7)), .int .i64 0]) ∧ Bk w' w.heap.size 34 (wordsAll K l) ∧ Below w.heap.size w w' := by
  subst hn
  rcases hK with rfl | rfl
  · exact words4_any l A c w hin
  · exact words8_any l A c w hin
set_option maxRecDepth 100000 in
theorem build4 (x0 x1 x2 x3 : Operand) (ty : TypeId) (dst : Option Tmp) (pos : String) (af : Array Edge) (a0 a1 a2 a3 : Nat) (a : Act) (w : World) (h0 : a.eval x0 = .int .u8 (a0 : Int)) (h1 : a.eval x1 = .int .u8 (a1 : Int)) (h2 : a.eval x2 = .int .u8 (a2 : Int)) (h3 : a.eval x3 = .int .u8 (a3 : Int)) :
    (execOp a.eval ⟨dst, .buildSlice 22 4 #[(0, x0), (1, x1), (2, x2), (3, x3)], ty, pos, af, none⟩).run Try.prog w = .ok (.value (.slice (some ⟨w.heap.size, 0, none⟩) 4 4)) (w.alloc (.cells (bts [a0, a1, a2, a3]) 5)) := by
  have e1 : (sizeOf 5).run Try.prog w = .ok 1 w := by kernel_rfl
  unfold execOp
  simp only [List.map_toArray, List.map_cons, List.map_nil, h0, h1, h2, h3]
  simp [Instr.buildSlice, run_underlying Try.underlying22 w, e1, Instr.fill, Value.cells, go_sem, bts]
theorem take4 {l : List Nat} {i : Nat} (h : 4 * i + 4 ≤ l.length) : l.take (4 * (i + 1)) = l.take (4 * i) ++ [at' l (4 * i), at' l (4 * i + 1), at' l (4 * i + 2), at' l (4 * i + 3)] := by
  rw [show 4 * (i + 1) = 4 * i + 1 + 1 + 1 + 1 from by omega, take_at' (l := l) (p := 4 * i + 1 + 1 + 1) (by omega), take_at' (l := l) (p := 4 * i + 1 + 1) (by omega), take_at' (l := l) (p := 4 * i + 1) (by omega), take_at' (l := l) (p := 4 * i) (by omega)]
  simp
set_option maxRecDepth 100000 in
set_option maxHeartbeats 4000000 in
theorem lwords_any (A : Option Addr) (n c : Nat) (l : List Nat) (w : World) (hin : IsB w A n c l) (hc : c ≤ 140737488351232) :
    Calls Try.prog 3 #[.slice A n c] w fun e w' => e = .returned (.bool true) ∧ Below w.heap.size w w' := by
  have hl := hin.len
  have hnc := hin.1.lenCap
  obtain ⟨i0, hi0, hz0, hz1, hz2⟩ := info_parts infoU8
  have hcp := copy_any A n c l w hin (by omega)
  have hi1 : ∀ w1, Bk w1 w.heap.size 5 (l ++ zeros 3) → IsB w1 (some ⟨w.heap.size, 0, none⟩) n (n + 3) l := fun w1 hbk => by
    have := hbk.isB (byt_app hin.2 (fun y hy => by have := List.eq_of_mem_replicate hy; omega)) n (n + 3) (by rw [List.length_append, hl]; omega) (by omega) (by omega)
    rw [List.take_append_of_le_length (by rw [hl]; exact Nat.le_refl _), List.take_of_length_le (by rw [hl]; exact Nat.le_refl _)] at this
    exact this
  have HCP := Lib.hid hcp
  have HI1 := Lib.hid hi1
  have HIN := Lib.hid hin
  have HL := Lib.hid hl
  clear hcp hi1 hin hl
  by_cases hn : n = 16 ∨ n = 32
  · obtain ⟨K, hK, hnK⟩ : ∃ K, (K = 4 ∨ K = 8) ∧ n = 4 * K := by
      rcases hn with h | h
      · exact ⟨4, .inl rfl, h⟩
      · exact ⟨8, .inr rfl, h⟩
    have hll : l.length = 4 * K := by rw [HL.out, hnK]
    have hwl := wordsAll_len l hK rfl hll
    have hwb := (wordsAll_exp hK hll HIN.out.2).byt
    have hnw := fun B d W h => new_any K n l B d W hK hnK h
    have hwd := fun B d W h => words_any K n l B d W hK hnK h
    have hrw := fun W h => rwords_any K (K + 6) n l A c W hK rfl hnK h
    obtain ⟨N, hN⟩ : ∃ N, N = 4 * (K + 7) := ⟨_, rfl⟩
    have hN16 : 16 * (K + 6 + 1) = 4 * N := by omega
    rw [← hN] at hwd
    rw [hN16] at hrw hwl
    have hN60 : N ≤ 60 := by rcases hK with rfl | rfl <;> omega
    have hN44 : 44 ≤ N := by rcases hK with rfl | rfl <;> omega
    generalize hE : wordsAll K l = E at *
    have HNW := Lib.hid hnw
    have HWD := Lib.hid hwd
    have HRW := Lib.hid hrw
    have HWL := Lib.hid hwl
    have HNN := Lib.hid hn
    clear hnw hwd hrw hwl hn hnK hll hN hN16 hE hK
    go_enter Try.func3, Try.ntmps3
    go_wp2_with fail
    refine HCP.out.mono ?_
    rintro e w1 ⟨rfl, hbk, hb1⟩
    have HB1 := Lib.hid hb1
    have HK1' := Lib.hid (HI1.out w1 hbk)
    clear hbk hb1
    go_wp2_with fail
    refine (HWD.out _ _ _ HK1'.out).mono ?_
    rintro e w2 ⟨rfl, hE2, hb2⟩
    have hbig := hE2.lt
    have HE2 := Lib.hid hE2
    have HK2' := Lib.hid (HK1'.out.ab hb2)
    have HB2 := Lib.hid (HB1.out.trans (hb2.mono HB1.out.size))
    have hg1 : w.heap.size ≤ w1.heap.size := HB1.out.size
    generalize w1.heap.size = g1 at *
    clear hE2 hb2 HK1' HB1
    go_wp2_with fail
    refine (HNW.out _ _ _ HK2'.out).mono ?_
    rintro e w3 ⟨b, g, rfl, hbg, hwb3, hck, hb3⟩
    have HE3 := Lib.hid (HE2.out.ab hb3)
    have HK3' := Lib.hid (HK2'.out.ab hb3)
    have HB3 := Lib.hid (HB2.out.trans (hb3.mono HB2.out.size))
    have hbig3 : g1 < w3.heap.size := HE3.out.lt
    have HB3S := Lib.hid HB3.out.size
    clear hck hb3 HE2 HK2' HB2
    go_wp2_with fail
    refine (same_any _ A n n (n + 3) c l l _ HK3'.out (HIN.out.below HB3.out)).mono ?_
    rintro e w' ⟨rfl, rfl⟩
    rw [decide_eq_true rfl]
    go_wp2_with fail
    refine (may_yes A n c _ HNN.out).mono ?_
    rintro e w' ⟨rfl, rfl⟩
    go_wp2_with fail
    go_loopw [8, 9, 49] (fun v _ j wr => ∃ i : Nat, i ≤ N ∧ j = .int .i64 i ∧ OwB wr w3.heap.size v (E.take (4 * i)) ∧ Bk wr g1 34 E ∧ Below w.heap.size w wr ∧ w3.heap.size ≤ wr.heap.size) (fun _ _ j _ => N - (intOf j).toNat)
    case atStart => exact ⟨0, by omega, rfl, OwB.nil _ _, HE3.out, HB3.out, Nat.le_refl _⟩
    case round =>
      obtain ⟨i, hi, rfl, ho, he, hb, hsz⟩ := hrel
      clear HE3 HK3' HB3
      by_cases hlt : i < N
      · have hiN : (i : Int) < (N : Int) := by omega
        have c0 := he.cell (k := i * 4) (by rw [HWL.out]; omega)
        have c1 := he.cell (k := i * 4 + 1) (by rw [HWL.out]; omega)
        have c2 := he.cell (k := i * 4 + 2) (by rw [HWL.out]; omega)
        have c3 := he.cell (k := i * 4 + 3) (by rw [HWL.out]; omega)
        have htk := take4 (l := E) (i := i) (by rw [HWL.out]; omega)
        rw [show 4 * i = i * 4 from Nat.mul_comm _ _] at htk
        have b0 := hwb.at' (i * 4)
        have b1 := hwb.at' (i * 4 + 1)
        have b2 := hwb.at' (i * 4 + 2)
        have b3 := hwb.at' (i * 4 + 3)
        change wr.cell? _ = some (.int .u8 ((at' E (i * 4) : Nat) : Int)) at c0
        change wr.cell? _ = some (.int .u8 ((at' E (i * 4 + 1) : Nat) : Int)) at c1
        change wr.cell? _ = some (.int .u8 ((at' E (i * 4 + 2) : Nat) : Int)) at c2
        change wr.cell? _ = some (.int .u8 ((at' E (i * 4 + 3) : Nat) : Int)) at c3
        generalize at' E (i * 4) = y0 at *
        generalize at' E (i * 4 + 1) = y1 at *
        generalize at' E (i * 4 + 2) = y2 at *
        generalize at' E (i * 4 + 3) = y3 at *
        have HO := Lib.hid ho
        have HEE := Lib.hid he
        have HB := Lib.hid hb
        have HTK := Lib.hid htk
        rw [show 4 * i = i * 4 from Nat.mul_comm _ _] at HO
        have hel : (E.take (i * 4)).length = i * 4 := by rw [List.length_take, HWL.out]; omega
        have HEL := Lib.hid hel
        have hk0 : ∀ w', KeepA wr u8 (E.take (i * 4)).length w' → w'.cell? ⟨g1, i * 4, none⟩ = some (.int .u8 (y0 : Int)) := fun w' h => h _ _ c0 (fun g hg e => absurd (show g1 = g from e) (by have := (HO.out.lt g hg).1; omega))
        have HK0 := Lib.hid hk0
        have hk1 : ∀ w', KeepA wr u8 (E.take (i * 4)).length w' → w'.cell? ⟨g1, i * 4 + 1, none⟩ = some (.int .u8 (y1 : Int)) := fun w' h => h _ _ c1 (fun g hg e => absurd (show g1 = g from e) (by have := (HO.out.lt g hg).1; omega))
        have HK1 := Lib.hid hk1
        have hk2 : ∀ w', KeepA wr u8 (E.take (i * 4)).length w' → w'.cell? ⟨g1, i * 4 + 2, none⟩ = some (.int .u8 (y2 : Int)) := fun w' h => h _ _ c2 (fun g hg e => absurd (show g1 = g from e) (by have := (HO.out.lt g hg).1; omega))
        have HK2 := Lib.hid hk2
        have hk3 : ∀ w', KeepA wr u8 (E.take (i * 4)).length w' → w'.cell? ⟨g1, i * 4 + 3, none⟩ = some (.int .u8 (y3 : Int)) := fun w' h => h _ _ c3 (fun g hg e => absurd (show g1 = g from e) (by have := (HO.out.lt g hg).1; omega))
        have HK3 := Lib.hid hk3
        clear hk0 hk1 hk2 hk3 htk ho he hb hel
        go_wp2_with fail
        refine wp_take_appendL wr 21 (.tmp 52) (t := 22) (d1 := 73) (d2 := 74) (d3 := 8) rfl (by kernel_rfl) (by kernel_rfl) (by kernel_rfl) (fun _ _ _ d _ h => by cases d <;> exact h) rfl rfl rfl rfl rfl rfl rfl rfl rfl rfl rfl (by kernel_rfl) (by kernel_rfl) (by kernel_rfl) (by kernel_rfl) Try.underlying22 hi0 hz0 hz1 hz2 rfl _ _ HO.out [y0, y1, y2, y3] (byt4 b0 b1 b2 b3) (by rw [HEL.out]; simp; omega) hsz (fun a => a.eval (.tmp 57) = .int .u8 (y0 : Int) ∧ a.eval (.tmp 62) = .int .u8 (y1 : Int) ∧ a.eval (.tmp 67) = .int .u8 (y2 : Int) ∧ a.eval (.tmp 72) = .int .u8 (y3 : Int)) (fun a w' h => build4 (.tmp 57) (.tmp 62) (.tmp 67) (.tmp 72) _ _ _ _ y0 y1 y2 y3 a w' h.1 h.2.1 h.2.2.1 h.2.2.2) ?_
        simp only [List.take_succ_cons, List.take_zero]
        refine takesB_step (v := ?av0) rfl ?ah0 ?ak0
        case ah0 => (intro w' hw'; have hka := HK0.out w' hw'; have hkb := HK1.out w' hw'; have hkc := HK2.out w' hw'; have hkd := HK3.out w' hw'; go_simp; rfl)
        refine takesB_step (v := ?av1) rfl ?ah1 ?ak1
        case ah1 => (intro w' hw'; have hka := HK0.out w' hw'; have hkb := HK1.out w' hw'; have hkc := HK2.out w' hw'; have hkd := HK3.out w' hw'; go_simp; rfl)
        refine takesB_step (v := ?av2) rfl ?ah2 ?ak2
        case ah2 => (intro w' hw'; have hka := HK0.out w' hw'; have hkb := HK1.out w' hw'; have hkc := HK2.out w' hw'; have hkd := HK3.out w' hw'; go_simp; rfl)
        refine takesB_step (v := ?av3) rfl ?ah3 ?ak3
        case ah3 => (intro w' hw'; have hka := HK0.out w' hw'; have hkb := HK1.out w' hw'; have hkc := HK2.out w' hw'; have hkd := HK3.out w' hw'; go_simp; rfl)
        refine takesB_step (v := ?av4) rfl ?ah4 ?ak4
        case ah4 => (intro w' hw'; have hka := HK0.out w' hw'; have hkb := HK1.out w' hw'; have hkc := HK2.out w' hw'; have hkd := HK3.out w' hw'; go_simp; rfl)
        refine takesB_step (v := ?av5) rfl ?ah5 ?ak5
        case ah5 => (intro w' hw'; have hka := HK0.out w' hw'; have hkb := HK1.out w' hw'; have hkc := HK2.out w' hw'; have hkd := HK3.out w' hw'; go_simp; rfl)
        refine takesB_step (v := ?av6) rfl ?ah6 ?ak6
        case ah6 => (intro w' hw'; have hka := HK0.out w' hw'; have hkb := HK1.out w' hw'; have hkc := HK2.out w' hw'; have hkd := HK3.out w' hw'; go_simp; rfl)
        refine takesB_step (v := ?av7) rfl ?ah7 ?ak7
        case ah7 => (intro w' hw'; have hka := HK0.out w' hw'; have hkb := HK1.out w' hw'; have hkc := HK2.out w' hw'; have hkd := HK3.out w' hw'; go_simp; rfl)
        refine takesB_step (v := ?av8) rfl ?ah8 ?ak8
        case ah8 => (intro w' hw'; have hka := HK0.out w' hw'; have hkb := HK1.out w' hw'; have hkc := HK2.out w' hw'; have hkd := HK3.out w' hw'; go_simp; rfl)
        refine takesB_step (v := ?av9) rfl ?ah9 ?ak9
        case ah9 => (intro w' hw'; have hka := HK0.out w' hw'; have hkb := HK1.out w' hw'; have hkc := HK2.out w' hw'; have hkd := HK3.out w' hw'; go_simp; rfl)
        refine takesB_step (v := ?av10) rfl ?ah10 ?ak10
        case ah10 => (intro w' hw'; have hka := HK0.out w' hw'; have hkb := HK1.out w' hw'; have hkc := HK2.out w' hw'; have hkd := HK3.out w' hw'; go_simp; rfl)
        refine takesB_step (v := ?av11) rfl ?ah11 ?ak11
        case ah11 => (intro w' hw'; have hka := HK0.out w' hw'; have hkb := HK1.out w' hw'; have hkc := HK2.out w' hw'; have hkd := HK3.out w' hw'; go_simp; rfl)
        refine takesB_step (v := ?av12) rfl ?ah12 ?ak12
        case ah12 => (intro w' hw'; have hka := HK0.out w' hw'; have hkb := HK1.out w' hw'; have hkc := HK2.out w' hw'; have hkd := HK3.out w' hw'; go_simp; rfl)
        refine takesB_step (v := ?av13) rfl ?ah13 ?ak13
        case ah13 => (intro w' hw'; have hka := HK0.out w' hw'; have hkb := HK1.out w' hw'; have hkc := HK2.out w' hw'; have hkd := HK3.out w' hw'; go_simp; rfl)
        refine takesB_step (v := ?av14) rfl ?ah14 ?ak14
        case ah14 => (intro w' hw'; have hka := HK0.out w' hw'; have hkb := HK1.out w' hw'; have hkc := HK2.out w' hw'; have hkd := HK3.out w' hw'; go_simp; rfl)
        refine takesB_step (v := ?av15) rfl ?ah15 ?ak15
        case ah15 => (intro w' hw'; have hka := HK0.out w' hw'; have hkb := HK1.out w' hw'; have hkc := HK2.out w' hw'; have hkd := HK3.out w' hw'; go_simp; rfl)
        refine takesB_step (v := ?av16) rfl ?ah16 ?ak16
        case ah16 => (intro w' hw'; have hka := HK0.out w' hw'; have hkb := HK1.out w' hw'; have hkc := HK2.out w' hw'; have hkd := HK3.out w' hw'; go_simp; rfl)
        refine takesB_step (v := ?av17) rfl ?ah17 ?ak17
        case ah17 => (intro w' hw'; have hka := HK0.out w' hw'; have hkb := HK1.out w' hw'; have hkc := HK2.out w' hw'; have hkd := HK3.out w' hw'; go_simp; rfl)
        refine takesB_step (v := ?av18) rfl ?ah18 ?ak18
        case ah18 => (intro w' hw'; have hka := HK0.out w' hw'; have hkb := HK1.out w' hw'; have hkc := HK2.out w' hw'; have hkd := HK3.out w' hw'; go_simp; rfl)
        refine takesB_step (v := ?av19) rfl ?ah19 ?ak19
        case ah19 => (intro w' hw'; have hka := HK0.out w' hw'; have hkb := HK1.out w' hw'; have hkc := HK2.out w' hw'; have hkd := HK3.out w' hw'; go_simp; rfl)
        refine takesB_step (v := ?av20) rfl ?ah20 ?ak20
        case ah20 => (intro w' hw'; have hka := HK0.out w' hw'; have hkb := HK1.out w' hw'; have hkc := HK2.out w' hw'; have hkd := HK3.out w' hw'; go_simp; rfl)
        simp only [Act.put, List.setIfInBounds_toArray, List.set_cons_zero, List.set_cons_succ]
        refine takesB_nil ⟨⟨rfl, rfl, rfl, rfl⟩, rfl, rfl, ?_⟩
        simp only [List.setIfInBounds_toArray, List.set_cons_zero, List.set_cons_succ]
        intro v1 w4 hown4 hb4 hg4 hat4
        refine ⟨rfl, ?_⟩
        rw [← HTK.out] at hown4
        have H1 := Lib.hid hown4
        have H2 := Lib.hid (HEE.out.below hb4 (show g1 < w3.heap.size from hbig3))
        have H3 := Lib.hid (HB.out.trans (hb4.mono HB3S.out))
        have H4 := Lib.hid (Nat.le_trans hsz hb4.size)
        clear hown4 hb4 hg4 hat4
        go_wp2_with fail
        go_roundw
        case rel => exact ⟨i + 1, by omega, by go_num, H1.out, H2.out, H3.out, H4.out⟩
        case measure => simp [intOf]; omega
      · obtain rfl : i = N := by omega
        rw [List.take_of_length_le (by rw [HWL.out]; exact Nat.le_refl _)] at ho
        obtain ⟨gb, cb, hv, hgb, hgbl, hcb, hcbm, _⟩ := ho.form (by rw [HWL.out]; omega)
        rw [HWL.out] at hv hcb
        subst hv
        have HIB := Lib.hid (ho.isB HWL.out)
        have HB := Lib.hid hb
        clear ho he hb
        go_wp2_with fail
        refine (HRW.out _ (HIN.out.below HB.out)).mono ?_
        rintro e w4 ⟨g4, c4, rfl, hg4, hc4, hc4m, how4, hb4⟩
        have HB4 := Lib.hid (HB.out.trans (hb4.mono HB.out.size))
        have HIB4 := Lib.hid (HIB.out.ab hb4)
        have HIC4 := Lib.hid (how4.isB HWL.out)
        clear how4 hb4 HIB
        go_wp2_with fail
        refine (same_any _ _ _ _ _ _ E E _ HIB4.out HIC4.out).mono ?_
        rintro e w' ⟨rfl, rfl⟩
        rw [decide_eq_true rfl]
        go_wp2_with fail
        refine (known3_any _).mono ?_
        rintro e w5 ⟨rfl, hb5⟩
        have HB5 := Lib.hid (HB4.out.trans (hb5.mono HB4.out.size))
        clear hb5
        go_wp2_with fail
        go_ret
        exact ⟨rfl, HB5.out⟩
  · have h1 : n ≠ 16 := fun h => hn (.inl h)
    have h2 : n ≠ 32 := fun h => hn (.inr h)
    go_enter Try.func3, Try.ntmps3
    go_wp2_with fail
    refine HCP.out.mono ?_
    rintro e w1 ⟨rfl, hbk, hb1⟩
    have HB1 := Lib.hid hb1
    have HK1' := Lib.hid (HI1.out w1 hbk)
    clear hbk hb1
    go_wp2_with fail
    refine (words_bad _ n _ h1 h2 _).mono ?_
    rintro e w' ⟨rfl, rfl⟩
    go_wp2_with fail
    refine (new_bad _ n _ h1 h2 _).mono ?_
    rintro e w' ⟨rfl, rfl⟩
    go_wp2_with fail
    refine (same_any _ A n n (n + 3) c l l _ HK1'.out (HIN.out.below HB1.out)).mono ?_
    rintro e w' ⟨rfl, rfl⟩
    rw [decide_eq_true rfl]
    go_wp2_with fail
    refine (may_no A n c _ h1 h2).mono ?_
    rintro e w' ⟨rfl, rfl⟩
    go_wp2_with fail
    refine (known3_any _).mono ?_
    rintro e w2 ⟨rfl, hb2⟩
    have HB2 := Lib.hid (HB1.out.trans (hb2.mono HB1.out.size))
    clear hb2
    go_wp2_with fail
    go_ret
    exact ⟨rfl, HB2.out⟩
theorem lwords_walk (A : Option Addr) (n c : Nat) (zs : List Int) (w : World) (h : IsRow .u8 w A n c zs) (hs : c * 1 ≤ 140737488351232) :
    Calls Try.prog 3 #[.slice A n c] w fun e w' => e = .returned (.bool true) ∧ Below w.heap.size w w' := by
  obtain ⟨l, rfl, hl⟩ := byt_of_row h
  exact lwords_any A n c l w ⟨h, hl⟩ (by omega)
end Go.Proofs.Ytfchlemjfdlfeaa
