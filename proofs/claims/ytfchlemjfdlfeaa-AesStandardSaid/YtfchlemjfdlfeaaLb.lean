/-
  WALKS of the laws of layer 3: known, AesEncrypts, AesDecrypts, AesNone.
-/
import Derived.Test.YtfchlemjfdlfeaaLa
namespace Go.Proofs.Ytfchlemjfdlfeaa
open Go.RowKit
set_option linter.unusedVariables false

def stdC : List Nat := [0x69, 0xc4, 0xe0, 0xd8, 0x6a, 0x7b, 0x04, 0x30, 0xd8, 0xcd, 0xb7, 0x80, 0x70, 0xb4, 0xc5, 0x5a]
set_option maxRecDepth 100000 in
set_option maxHeartbeats 1000000 in
theorem known3_any (w : World) : Calls Try.prog 23 #[] w fun e w' => e = .returned (.bool true) ∧ Below w.heap.size w w' := by
  have hE : ∀ W, (Op.equalIn 10000 35 (.agg (bts stdC)) (.agg #[.int .u8 105, .int .u8 196, .int .u8 224, .int .u8 216, .int .u8 106, .int .u8 123, .int .u8 4, .int .u8 48, .int .u8 216, .int .u8 205, .int .u8 183, .int .u8 128, .int .u8 112, .int .u8 180, .int .u8 197, .int .u8 90])).run Try.prog W = .ok true W := fun W => eq16 stdC stdC rfl rfl W
  have hls : stdC.length = 16 := rfl
  have hst : encK (wordsAll 4 (List.range 16)) (4 + 6) stdBlock = stdC := std_enc
  have HST := Lib.hid hst
  clear hst
  generalize stdC = y at *
  have HLS := Lib.hid hls
  clear hls
  go_enter Try.func23, Try.ntmps23
  go_wp2_with fail
  refine (count_any 16 (by omega) _).mono ?_
  rintro e w1 ⟨v, rfl, hown, hb1⟩
  obtain ⟨g0, c0, rfl, hg0, hg0l, hc0, hc0m, _⟩ := hown.form (by simp)
  rw [List.length_range] at hc0 hown ⊢
  have hin := hown.isB (A := some ⟨g0, 0, none⟩) (n := 16) (c := c0) (by simp)
  have HIN := Lib.hid hin
  have HB1 := Lib.hid hb1
  clear hown hin hb1
  go_wp2_with fail
  refine (new_any 4 16 (List.range 16) _ _ _ (.inl rfl) rfl HIN.out).mono ?_
  rintro e w2 ⟨b, g, rfl, hbg, hwb, hck, hb2⟩
  have HCK := Lib.hid hck
  have HB2 := Lib.hid (HB1.out.trans (hb2.mono HB1.out.size))
  clear hck hb2
  go_wp2_with fail
  refine (block_any _).mono ?_
  rintro e w3 ⟨rfl, hb3⟩
  have HB3 := Lib.hid (HB2.out.trans (hb3.mono HB2.out.size))
  have HCK3 := Lib.hid (HCK.out.ab hb3)
  clear hb3
  go_wp2_with fail
  refine (encC_any b g 4 (List.range 16) stdBlock _ (.inl rfl) rfl (range_byt 16 (by omega)) stdBlock_byt rfl HCK3.out).mono ?_
  rintro e w4 ⟨rfl, hb4⟩
  have HB4 := Lib.hid (HB3.out.trans (hb4.mono HB3.out.size))
  clear hb4
  rw [HST.out]
  go_wp2_with (first
    | (refine wpList_storeB (o := ⟨none, .store _ (.tmp 3) (.tmp 20), _, _, _, _⟩) rfl 35 (.tmp 3) (.tmp 20) rfl _ rfl y rfl (Bk.new w4 35 z16) (by rw [HLS.out]; exact sz16) (by rw [HLS.out]; rfl) ?_)
    | (refine wpList_loadBg (o := ⟨some 25, _, _, _, _, _⟩) (by rfl) 35 (.tmp 3) rfl _ rfl ((Bk.new w4 35 z16).row y) Try.underlying35 (by rw [HLS.out]; exact sz16) ?_))
  go_ret
  exact ⟨rfl, Below.row (HB4.out.alloc HB4.out.size _) HB4.out.size _⟩

theorem equal_yes (z : List Nat) (h : z.length = 16) (W : World) : (Op.equalIn 10000 35 (.agg (bts z)) (.agg (bts z))).run Try.prog W = .ok true W := by
  rw [eq16 z z h h W]; simp
set_option maxRecDepth 100000 in
set_option maxHeartbeats 4000000 in
theorem encrypts_any (A : Option Addr) (n c : Nat) (l x : List Nat) (w : World) (hin : IsB w A n c l) (hc : c ≤ 140737488351232) (hx : Byt x) (lx : x.length = 16) :
    Calls Try.prog 4 #[.slice A n c, .agg (bts x)] w fun e w' => e = .returned (.bool true) ∧ Below w.heap.size w w' := by
  by_cases hn : n = 16 ∨ n = 32
  · obtain ⟨K, hK, hnK⟩ : ∃ K, (K = 4 ∨ K = 8) ∧ n = 4 * K := by
      rcases hn with h | h
      · exact ⟨4, .inl rfl, h⟩
      · exact ⟨8, .inr rfl, h⟩
    have hl := hin.len
    have hnc := hin.1.lenCap
    have hzl := encK_len (wordsAll K l) (K + 6) x
    have hre := fun W h => rEnc_any K (K + 6) n l x A c W hK rfl hnK h hx lx
    have hen := fun b g W h => encC_any b g K l x W hK (by rw [hl, hnK]) hin.2 hx lx h
    have hnw := fun B d W h => new_any K n l B d W hK hnK h
    generalize encK (wordsAll K l) (K + 6) x = z at *
    have hE := equal_yes z hzl
    have HRE := Lib.hid hre
    have HEN := Lib.hid hen
    have HNW := Lib.hid hnw
    have HIN := Lib.hid (hin.alloc (.cells (bts x) 35))
    have HIN0 := Lib.hid hin
    have HZL := Lib.hid hzl
    have HL := Lib.hid hl
    have LX := Lib.hid lx
    have HNN := Lib.hid hn
    clear hre hen hnw hzl hl lx hK hnK hn
    go_enter Try.func4, Try.ntmps4
    go_wp2_with fail
    refine (may_yes A n c _ HNN.out).mono ?_
    rintro e w' ⟨rfl, rfl⟩
    go_wp2_with fail
    refine (copy_any A n c l _ HIN.out (by omega)).mono ?_
    rintro e w1 ⟨rfl, hbk, hb1⟩
    have hxb : Bk w1 w.heap.size 35 x := (Bk.newAt _ x rfl).below hb1 (by simp)
    have hbw : Below w.heap.size w w1 := ((Below.refl _ _).alloc (Nat.le_refl _) _).trans (hb1.mono (by simp))
    have hi1 : IsB w1 (some ⟨(w.alloc (.cells (bts x) 35)).heap.size, 0, none⟩) n (n + 3) l := by
      have := hbk.isB (byt_app hin.2 (fun y hy => by have := List.eq_of_mem_replicate hy; omega)) n (n + 3) (by rw [List.length_append, HL.out]; omega) (by omega) (by omega)
      rw [List.take_append_of_le_length (by rw [HL.out]; exact Nat.le_refl _), List.take_of_length_le (by rw [HL.out]; exact Nat.le_refl _)] at this
      exact this
    have hg1 : (w.alloc (.cells (bts x) 35)).heap.size = w.heap.size + 1 := by simp
    rw [hg1] at hbk hi1 ⊢
    have hg1l := hbk.lt
    have HBK := Lib.hid hbk
    have HXB := Lib.hid hxb
    have HBW := Lib.hid hbw
    have HI1 := Lib.hid hi1
    clear hbk hxb hbw hi1 hb1 hg1
    go_wp2_with fail
    refine (HNW.out _ _ _ HI1.out).mono ?_
    rintro e w2 ⟨b, g, rfl, hbg, hwb, hck, hb2⟩
    have HCK := Lib.hid hck
    have HBK2 := Lib.hid (HBK.out.ab hb2)
    have HXB2 := Lib.hid (HXB.out.ab hb2)
    have HBW2 := Lib.hid (HBW.out.trans (hb2.mono HBW.out.size))
    have hgb1 : w.heap.size + 1 ≠ b := by omega
    have hgg1 : w.heap.size + 1 ≠ g := by omega
    clear hck hb2 HBK HXB
    go_wp2_with fail
    go_loopw [8, 30] (fun _ v wr => ∃ j : Nat, j ≤ n ∧ v = .int .i64 j ∧ Bk wr (w.heap.size + 1) 5 (upd (fun _ => 7) (l ++ zeros 3) j) ∧ CipK wr b g K l ∧ Bk wr w.heap.size 35 x ∧ Below w.heap.size w wr) (fun _ v _ => n - (intOf v).toNat)
    case atStart => exact ⟨0, by omega, rfl, by rw [upd_zero]; exact HBK2.out, HCK.out, HXB2.out, HBW2.out⟩
    case round =>
      obtain ⟨j, hj, rfl, hbk, hck, hxb, hbw⟩ := hrel
      clear HBK2 HCK HXB2
      by_cases hlt : j < n
      · have hji : (j : Int) < (n : Int) := by omega
        have hfr := hbk.free j
        have hcl := hbk.cell (k := j) (by rw [upd_len, List.length_append, HL.out]; omega)
        generalize (upd (fun _ => 7) (l ++ zeros 3) j)[j]?.getD 0 = y at hcl
        have hst := hbk.set j 7
        rw [upd_step (fun _ => 7) (l ++ zeros 3) j (by rw [List.length_append, HL.out]; omega)] at hst
        have H1 := Lib.hid hst
        have H2 : Hid (CipK _ b g K l) := Lib.hid ⟨hck.wd.far (c := w.heap.size + 1) (k := j) (Ne.symm hgb1) (.int .u8 ((7 : Nat) : Int)), ⟨(Below.heap_setCell wr ⟨w.heap.size + 1, j, none⟩ (.int .u8 ((7 : Nat) : Int)) g (Ne.symm hgg1)).trans hck.cip.row⟩⟩
        have H3 := Lib.hid (hxb.far (c := w.heap.size + 1) (k := j) (by omega) (.int .u8 ((7 : Nat) : Int)))
        have H4 := Lib.hid (hbw.setCell (p := ⟨w.heap.size + 1, j, none⟩) (by show w.heap.size ≤ w.heap.size + 1; omega) (.int .u8 ((7 : Nat) : Int)))
        clear hst hbk hck hxb hbw
        go_wp2_with fail
        go_roundw
        case rel => exact ⟨j + 1, by omega, by go_num, H1.out, H2.out, H3.out, H4.out⟩
        case measure => simp [intOf]; omega
      · have hji : ¬ (j : Int) < (n : Int) := by omega
        have HCK := Lib.hid hck
        have HXB := Lib.hid hxb
        have HBW3 := Lib.hid hbw
        clear hbk hck hxb hbw
        go_wp2_with (refine wpList_loadB (o := ⟨some 39, _, _, _, _, _⟩) rfl 35 (.tmp 3) rfl _ rfl HXB.out Try.underlying35 (by rw [LX.out]; exact sz16) ?_)
        refine (HEN.out b g _ HCK.out).mono ?_
        rintro e w3 ⟨rfl, hb3⟩
        have HXB3 := Lib.hid (HXB.out.ab hb3)
        have HBW4 := Lib.hid (HBW3.out.trans (hb3.mono HBW3.out.size))
        clear hb3 HXB
        go_wp2_with (refine wpList_storeB (o := ⟨none, .store _ (.tmp 9) (.tmp 41), _, _, _, _⟩) rfl 35 (.tmp 9) (.tmp 41) rfl _ rfl z rfl (Bk.new w3 35 z16) (by rw [HZL.out]; exact sz16) (by rw [HZL.out]; rfl) ?_)
        have hzb : Bk ((w3.alloc (.cells (bts z16) 35)).setRow w3.heap.size (bts z)) w3.heap.size 35 z := (Bk.new w3 _ _).row z
        have hxb : Bk ((w3.alloc (.cells (bts z16) 35)).setRow w3.heap.size (bts z)) w.heap.size 35 x := (HXB3.out.alloc _).rowFar (by have := HXB3.out.lt; omega) _
        have hbw : Below w.heap.size w ((w3.alloc (.cells (bts z16) 35)).setRow w3.heap.size (bts z)) := Below.row (HBW4.out.alloc HBW4.out.size _) HBW4.out.size _
        generalize w3.heap.size = g9 at *
        obtain ⟨w4, hw4⟩ : ∃ w4, (w3.alloc (.cells (bts z16) 35)).setRow g9 (bts z) = w4 := ⟨_, rfl⟩
        rw [hw4] at hzb hxb hbw
        rw [show (w3.alloc (.cells #[.int .u8 0, .int .u8 0, .int .u8 0, .int .u8 0, .int .u8 0, .int .u8 0, .int .u8 0, .int .u8 0, .int .u8 0, .int .u8 0, .int .u8 0, .int .u8 0, .int .u8 0, .int .u8 0, .int .u8 0, .int .u8 0] 35)).setRow g9 (bts z) = w4 from hw4]
        have HZB := Lib.hid hzb
        have HX4 := Lib.hid hxb
        have HB4 := Lib.hid hbw
        clear hzb hxb hbw hw4
        refine wp_quiet_tail 12 (AbW w4.drew) (AbW.refl _) (by kernel_rfl) (by kernel_rfl) ?_
        simp only [List.take_succ_cons, List.take_zero, List.drop_succ_cons, List.drop_zero]
        refine quiet_value (v := ?qv1) (by rfl) ?qh1 ?qk1
        case qh1 => (intro w' hw'; go_simp; rfl)
        simp only [Act.put, List.setIfInBounds_toArray, List.set_cons_zero, List.set_cons_succ]
        refine quiet_value (v := ?qv2) (by rfl) ?qh2 ?qk2
        case qh2 => (intro w' hw'; go_simp; rfl)
        simp only [Act.put, List.setIfInBounds_toArray, List.set_cons_zero, List.set_cons_succ]
        refine quiet_value (v := ?qv3) (by rfl) ?qh3 ?qk3
        case qh3 => (intro w' hw'; go_simp; rfl)
        simp only [Act.put, List.setIfInBounds_toArray, List.set_cons_zero, List.set_cons_succ]
        refine quiet_loadB (by rfl) 35 (.tmp 9) rfl _ rfl (fun w' h => HZB.out.drew.ab h) Try.underlying35 (by rw [HZL.out]; exact sz16) ?_
        simp only [Act.put, List.setIfInBounds_toArray, List.set_cons_zero, List.set_cons_succ]
        refine quiet_value (v := ?qv4) (by rfl) ?qh4 ?qk4
        case qh4 => (intro w' hw'; go_simp; rfl)
        simp only [Act.put, List.setIfInBounds_toArray, List.set_cons_zero, List.set_cons_succ]
        refine quiet_loadB (by rfl) 35 (.tmp 3) rfl _ rfl (fun w' h => HX4.out.drew.ab h) Try.underlying35 (by rw [LX.out]; exact sz16) ?_
        simp only [Act.put, List.setIfInBounds_toArray, List.set_cons_zero, List.set_cons_succ]
        refine quiet_call (v := .agg (bts z)) (f := 26) (args := #[.slice A n c, .agg (bts x)]) (by rfl) (fun w' => by go_simp) (fun w' h => (HRE.out w' (HIN0.out.below (HB4.out.drew.trans (Below.mono h HB4.out.size)))).mono fun e w'' hh => ⟨hh.1, AbW.call h hh.2⟩) ?_
        simp only [Act.put, List.setIfInBounds_toArray, List.set_cons_zero, List.set_cons_succ]
        refine quiet_value (v := ?qv5) (by rfl) ?qh5 ?qk5
        case qh5 => (intro w' hw'; go_simp; rfl)
        simp only [Act.put, List.setIfInBounds_toArray, List.set_cons_zero, List.set_cons_succ]
        refine quiet_value (v := ?qv6) (by rfl) ?qh6 ?qk6
        case qh6 => (intro w' hw'; go_simp; rfl)
        simp only [Act.put, List.setIfInBounds_toArray, List.set_cons_zero, List.set_cons_succ]
        refine quiet_value (v := ?qv7) (by rfl) ?qh7 ?qk7
        case qh7 => (intro w' hw'; go_simp; rfl)
        simp only [Act.put, List.setIfInBounds_toArray, List.set_cons_zero, List.set_cons_succ]
        refine quiet_call (v := .bool true) (f := 23) (args := #[]) (by rfl) (fun w' => by go_simp) (fun w' h => (known3_any w').mono fun e w'' hh => ⟨hh.1, AbW.call h hh.2⟩) ?_
        simp only [Act.put, List.setIfInBounds_toArray, List.set_cons_zero, List.set_cons_succ]
        refine quiet_value (v := ?qv8) (by rfl) ?qh8 ?qk8
        case qh8 => (intro w' hw'; go_simp; rfl)
        simp only [Act.put, List.setIfInBounds_toArray, List.set_cons_zero, List.set_cons_succ]
        refine wpQuiet_nil ?_
        intro w5 h5
        have H5 := Lib.hid h5
        clear h5
        go_wp2_with fail
        go_ret
        exact ⟨rfl, HB4.out.drew.trans (Below.mono H5.out HB4.out.size)⟩
  · have h1 : n ≠ 16 := fun h => hn (.inl h)
    have h2 : n ≠ 32 := fun h => hn (.inr h)
    go_enter Try.func4, Try.ntmps4
    go_wp2_with fail
    refine (may_no A n c _ h1 h2).mono ?_
    rintro e w' ⟨rfl, rfl⟩
    go_wp2_with fail
    refine (known3_any _).mono ?_
    rintro e w2 ⟨rfl, hb2⟩
    go_wp2_with fail
    go_ret
    exact ⟨rfl, ((Below.refl _ _).alloc (Nat.le_refl _) _).trans (hb2.mono (by simp))⟩

set_option maxRecDepth 100000 in
theorem open16 {w : World} {r : Reach} {base : Nat} {v : Value} (h : Value.okWide Try.prog w r base 35 v) : ∃ l, v = .agg (bts l) ∧ Byt l ∧ l.length = 16 :=
  okWide_bytes (ts := List.replicate 16 5) Try.underlying35 Try.underlying5 (by kernel_rfl) (by kernel_rfl) (fun u hu => List.eq_of_mem_replicate hu) h

set_option maxRecDepth 100000 in
theorem encrypts_walk (A : Option Addr) (n c : Nat) (zs : List Int) (v : Value) (w : World) (h : IsRow .u8 w A n c zs) (hs : c * 1 ≤ 140737488351232) (hk : ∃ base, Value.okWide Try.prog w .any base 35 v) {H : Type} {enc : TypeId × Value → H} {d : DataW H} {p : List MemPlace} (_ : DataW.Trod enc Try.prog w 0 (fun _ => true) true 35 v d p) (_ : ∀ x ∈ p, x.block < w.heap.size) :
    Calls Try.prog 4 #[.slice A n c, v] w fun e w' => e = .returned (.bool true) ∧ Below w.heap.size w w' := by
  obtain ⟨l, rfl, hl⟩ := byt_of_row h
  obtain ⟨base, hk⟩ := hk
  obtain ⟨x, rfl, hx, lx⟩ := open16 hk
  exact encrypts_any A n c l x w ⟨h, hl⟩ (by omega) hx lx

end Go.Proofs.Ytfchlemjfdlfeaa
