/-
  WALKS of the laws of layer 3: AesDecrypts, AesNone.
-/
import Derived.Test.YtfchlemjfdlfeaaLb
namespace Go.Proofs.Ytfchlemjfdlfeaa
open Go.RowKit
set_option linter.unusedVariables false
set_option maxRecDepth 100000 in
set_option maxHeartbeats 4000000 in
theorem decrypts_any (A : Option Addr) (n c : Nat) (l x : List Nat) (w : World) (hin : IsB w A n c l) (hc : c ≤ 140737488351232) (hx : Byt x) (lx : x.length = 16) :
    Calls Try.prog 5 #[.slice A n c, .agg (bts x)] w fun e w' => e = .returned (.bool true) ∧ Below w.heap.size w w' := by
  by_cases hn : n = 16 ∨ n = 32
  · obtain ⟨K, hK, hnK⟩ : ∃ K, (K = 4 ∨ K = 8) ∧ n = 4 * K := by
      rcases hn with h | h
      · exact ⟨4, .inl rfl, h⟩
      · exact ⟨8, .inr rfl, h⟩
    have hl := hin.len
    have hnc := hin.1.lenCap
    have hzl := decK_len (wordsAll K l) (K + 6) x
    have hre := fun W h => rDec_any K (K + 6) n l x A c W hK rfl hnK h hx lx
    have hen := fun b g W h => decC_any b g K l x W hK (by rw [hl, hnK]) hin.2 hx lx h
    have hnw := fun B d W h => new_any K n l B d W hK hnK h
    generalize decK (wordsAll K l) (K + 6) x = z at *
    have hE := equal_yes z hzl
    have HRE := Lib.hid hre
    have HEN := Lib.hid hen
    have HNW := Lib.hid hnw
    have HIN := Lib.hid (hin.alloc (.cells (bts x) 35))
    have HIN0 := Lib.hid hin
    have HZL := Lib.hid hzl
    have HL := Lib.hid hl
    have LX := Lib.hid lx
    have HNN := Lib.hid hn
    clear hre hen hnw hzl hl lx hK hnK hn
    go_enter Try.func5, Try.ntmps5
    go_wp2_with fail
    refine (may_yes A n c _ HNN.out).mono ?_
    rintro e w' ⟨rfl, rfl⟩
    go_wp2_with fail
    refine (copy_any A n c l _ HIN.out (by omega)).mono ?_
    rintro e w1 ⟨rfl, hbk, hb1⟩
    have hxb : Bk w1 w.heap.size 35 x := (Bk.newAt _ x rfl).below hb1 (by simp)
    have hbw : Below w.heap.size w w1 := ((Below.refl _ _).alloc (Nat.le_refl _) _).trans (hb1.mono (by simp))
    have hi1 : IsB w1 (some ⟨(w.alloc (.cells (bts x) 35)).heap.size, 0, none⟩) n (n + 3) l := by
      have := hbk.isB (byt_app hin.2 (fun y hy => by have := List.eq_of_mem_replicate hy; omega)) n (n + 3) (by rw [List.length_append, HL.out]; omega) (by omega) (by omega)
      rw [List.take_append_of_le_length (by rw [HL.out]; exact Nat.le_refl _), List.take_of_length_le (by rw [HL.out]; exact Nat.le_refl _)] at this
      exact this
    have hg1 : (w.alloc (.cells (bts x) 35)).heap.size = w.heap.size + 1 := by simp
    rw [hg1] at hbk hi1 ⊢
    have hg1l := hbk.lt
    have HBK := Lib.hid hbk
    have HXB := Lib.hid hxb
    have HBW := Lib.hid hbw
    have HI1 := Lib.hid hi1
    clear hbk hxb hbw hi1 hb1 hg1
    go_wp2_with fail
    refine (HNW.out _ _ _ HI1.out).mono ?_
    rintro e w2 ⟨b, g, rfl, hbg, hwb, hck, hb2⟩
    have HCK := Lib.hid hck
    have HBK2 := Lib.hid (HBK.out.ab hb2)
    have HXB2 := Lib.hid (HXB.out.ab hb2)
    have HBW2 := Lib.hid (HBW.out.trans (hb2.mono HBW.out.size))
    clear hck hb2 HBK HXB
    clear HBK2
    go_wp2_with (refine wpList_loadB (o := ⟨some 27, _, _, _, _, _⟩) rfl 35 (.tmp 3) rfl _ rfl HXB2.out Try.underlying35 (by rw [LX.out]; exact sz16) ?_)
    refine (HEN.out b g _ HCK.out).mono ?_
    rintro e w3 ⟨rfl, hb3⟩
    have HXB3 := Lib.hid (HXB2.out.ab hb3)
    have HBW4 := Lib.hid (HBW2.out.trans (hb3.mono HBW2.out.size))
    clear hb3 HXB2
    go_wp2_with (refine wpList_storeB (o := ⟨none, .store _ (.tmp 7) (.tmp 29), _, _, _, _⟩) rfl 35 (.tmp 7) (.tmp 29) rfl _ rfl z rfl (Bk.new w3 35 z16) (by rw [HZL.out]; exact sz16) (by rw [HZL.out]; rfl) ?_)
    have hzb : Bk ((w3.alloc (.cells (bts z16) 35)).setRow w3.heap.size (bts z)) w3.heap.size 35 z := (Bk.new w3 _ _).row z
    have hxb : Bk ((w3.alloc (.cells (bts z16) 35)).setRow w3.heap.size (bts z)) w.heap.size 35 x := (HXB3.out.alloc _).rowFar (by have := HXB3.out.lt; omega) _
    have hbw : Below w.heap.size w ((w3.alloc (.cells (bts z16) 35)).setRow w3.heap.size (bts z)) := Below.row (HBW4.out.alloc HBW4.out.size _) HBW4.out.size _
    generalize w3.heap.size = g9 at *
    obtain ⟨w4, hw4⟩ : ∃ w4, (w3.alloc (.cells (bts z16) 35)).setRow g9 (bts z) = w4 := ⟨_, rfl⟩
    rw [hw4] at hzb hxb hbw
    rw [show (w3.alloc (.cells #[.int .u8 0, .int .u8 0, .int .u8 0, .int .u8 0, .int .u8 0, .int .u8 0, .int .u8 0, .int .u8 0, .int .u8 0, .int .u8 0, .int .u8 0, .int .u8 0, .int .u8 0, .int .u8 0, .int .u8 0, .int .u8 0] 35)).setRow g9 (bts z) = w4 from hw4]
    have HZB := Lib.hid hzb
    have HX4 := Lib.hid hxb
    have HB4 := Lib.hid hbw
    clear hzb hxb hbw hw4
    refine wp_quiet_tail 12 (AbW w4.drew) (AbW.refl _) (by kernel_rfl) (by kernel_rfl) ?_
    simp only [List.take_succ_cons, List.take_zero, List.drop_succ_cons, List.drop_zero]
    refine quiet_value (v := ?rv1) (by rfl) ?rh1 ?rk1
    case rh1 => (intro w' hw'; go_simp; rfl)
    simp only [Act.put, List.setIfInBounds_toArray, List.set_cons_zero, List.set_cons_succ]
    refine quiet_value (v := ?rv2) (by rfl) ?rh2 ?rk2
    case rh2 => (intro w' hw'; go_simp; rfl)
    simp only [Act.put, List.setIfInBounds_toArray, List.set_cons_zero, List.set_cons_succ]
    refine quiet_value (v := ?rv3) (by rfl) ?rh3 ?rk3
    case rh3 => (intro w' hw'; go_simp; rfl)
    simp only [Act.put, List.setIfInBounds_toArray, List.set_cons_zero, List.set_cons_succ]
    refine quiet_loadB (by rfl) 35 (.tmp 7) rfl _ rfl (fun w' h => HZB.out.drew.ab h) Try.underlying35 (by rw [HZL.out]; exact sz16) ?_
    simp only [Act.put, List.setIfInBounds_toArray, List.set_cons_zero, List.set_cons_succ]
    refine quiet_value (v := ?rv4) (by rfl) ?rh4 ?rk4
    case rh4 => (intro w' hw'; go_simp; rfl)
    simp only [Act.put, List.setIfInBounds_toArray, List.set_cons_zero, List.set_cons_succ]
    refine quiet_loadB (by rfl) 35 (.tmp 3) rfl _ rfl (fun w' h => HX4.out.drew.ab h) Try.underlying35 (by rw [LX.out]; exact sz16) ?_
    simp only [Act.put, List.setIfInBounds_toArray, List.set_cons_zero, List.set_cons_succ]
    refine quiet_call (v := .agg (bts z)) (f := 28) (args := #[.slice A n c, .agg (bts x)]) (by rfl) (fun w' => by go_simp) (fun w' h => (HRE.out w' (HIN0.out.below (HB4.out.drew.trans (Below.mono h HB4.out.size)))).mono fun e w'' hh => ⟨hh.1, AbW.call h hh.2⟩) ?_
    simp only [Act.put, List.setIfInBounds_toArray, List.set_cons_zero, List.set_cons_succ]
    refine quiet_value (v := ?rv5) (by rfl) ?rh5 ?rk5
    case rh5 => (intro w' hw'; go_simp; rfl)
    simp only [Act.put, List.setIfInBounds_toArray, List.set_cons_zero, List.set_cons_succ]
    refine quiet_value (v := ?rv6) (by rfl) ?rh6 ?rk6
    case rh6 => (intro w' hw'; go_simp; rfl)
    simp only [Act.put, List.setIfInBounds_toArray, List.set_cons_zero, List.set_cons_succ]
    refine quiet_value (v := ?rv7) (by rfl) ?rh7 ?rk7
    case rh7 => (intro w' hw'; go_simp; rfl)
    simp only [Act.put, List.setIfInBounds_toArray, List.set_cons_zero, List.set_cons_succ]
    refine quiet_call (v := .bool true) (f := 23) (args := #[]) (by rfl) (fun w' => by go_simp) (fun w' h => (known3_any w').mono fun e w'' hh => ⟨hh.1, AbW.call h hh.2⟩) ?_
    simp only [Act.put, List.setIfInBounds_toArray, List.set_cons_zero, List.set_cons_succ]
    refine quiet_value (v := ?rv8) (by rfl) ?rh8 ?rk8
    case rh8 => (intro w' hw'; go_simp; rfl)
    simp only [Act.put, List.setIfInBounds_toArray, List.set_cons_zero, List.set_cons_succ]
    refine wpQuiet_nil ?_
    intro w5 h5
    have H5 := Lib.hid h5
    clear h5
    go_wp2_with fail
    go_ret
    exact ⟨rfl, HB4.out.drew.trans (Below.mono H5.out HB4.out.size)⟩
  · have h1 : n ≠ 16 := fun h => hn (.inl h)
    have h2 : n ≠ 32 := fun h => hn (.inr h)
    go_enter Try.func5, Try.ntmps5
    go_wp2_with fail
    refine (may_no A n c _ h1 h2).mono ?_
    rintro e w' ⟨rfl, rfl⟩
    go_wp2_with fail
    refine (known3_any _).mono ?_
    rintro e w2 ⟨rfl, hb2⟩
    go_wp2_with fail
    go_ret
    exact ⟨rfl, ((Below.refl _ _).alloc (Nat.le_refl _) _).trans (hb2.mono (by simp))⟩

set_option maxRecDepth 100000 in
theorem decrypts_walk (A : Option Addr) (n c : Nat) (zs : List Int) (v : Value) (w : World) (h : IsRow .u8 w A n c zs) (hs : c * 1 ≤ 140737488351232) (hk : ∃ base, Value.okWide Try.prog w .any base 35 v) {H : Type} {enc : TypeId × Value → H} {d : DataW H} {p : List MemPlace} (_ : DataW.Trod enc Try.prog w 0 (fun _ => true) true 35 v d p) (_ : ∀ x ∈ p, x.block < w.heap.size) :
    Calls Try.prog 5 #[.slice A n c, v] w fun e w' => e = .returned (.bool true) ∧ Below w.heap.size w w' := by
  obtain ⟨l, rfl, hl⟩ := byt_of_row h
  obtain ⟨base, hk⟩ := hk
  obtain ⟨x, rfl, hx, lx⟩ := open16 hk
  exact decrypts_any A n c l x w ⟨h, hl⟩ (by omega) hx lx

set_option maxRecDepth 100000 in
theorem enc_none (x : List Nat) (lx : x.length = 16) (w : World) : Calls Try.prog 25 #[.pointer none, .agg (bts x)] w fun e w' => e = .returned (.tuple #[.agg (bts z16), .int .i64 1]) ∧ Below w.heap.size w w' := by
  have HL := Lib.hid lx
  go_enter Try.func25, Try.ntmps25
  go_wp2_with (refine wpList_storeB (o := ⟨none, .store _ (.tmp 4) (.tmp 11), _, _, _, _⟩) rfl 35 (.tmp 4) (.tmp 11) rfl _ rfl z16 rfl (Bk.newAt 35 z16 (by simp)) sz16 rfl ?_)
  refine bodyPost_ret (results_bts2 Try.results25 _ _ _ rfl ((Bk.newAt 35 z16 (by simp)).row z16) Try.underlying35 sz16) rfl ?_
  exact ⟨rfl, Below.row (((Below.refl _ _).alloc (Nat.le_refl _) _).alloc (by simp) _) (by omega) _⟩
set_option maxRecDepth 100000 in
theorem dec_none (x : List Nat) (lx : x.length = 16) (w : World) : Calls Try.prog 27 #[.pointer none, .agg (bts x)] w fun e w' => e = .returned (.tuple #[.agg (bts z16), .int .i64 1]) ∧ Below w.heap.size w w' := by
  have HL := Lib.hid lx
  go_enter Try.func27, Try.ntmps27
  go_wp2_with (refine wpList_storeB (o := ⟨none, .store _ (.tmp 4) (.tmp 11), _, _, _, _⟩) rfl 35 (.tmp 4) (.tmp 11) rfl _ rfl z16 rfl (Bk.newAt 35 z16 (by simp)) sz16 rfl ?_)
  refine bodyPost_ret (results_bts2 Try.results27 _ _ _ rfl ((Bk.newAt 35 z16 (by simp)).row z16) Try.underlying35 sz16) rfl ?_
  exact ⟨rfl, Below.row (((Below.refl _ _).alloc (Nat.le_refl _) _).alloc (by simp) _) (by omega) _⟩

set_option maxRecDepth 100000 in
set_option maxHeartbeats 4000000 in
theorem none_any (x : List Nat) (w : World) (hx : Byt x) (lx : x.length = 16) :
    Calls Try.prog 6 #[.agg (bts x)] w fun e w' => e = .returned (.bool true) ∧ Below w.heap.size w w' := by
  have hE : ∀ W, (Op.equalIn 10000 35 (.agg (bts z16)) (.agg #[.int .u8 0, .int .u8 0, .int .u8 0, .int .u8 0, .int .u8 0, .int .u8 0, .int .u8 0, .int .u8 0, .int .u8 0, .int .u8 0, .int .u8 0, .int .u8 0, .int .u8 0, .int .u8 0, .int .u8 0, .int .u8 0])).run Try.prog W = .ok true W := fun W => equal_yes z16 rfl W
  have LX := Lib.hid lx
  clear lx
  have hxb : Bk (w.alloc (.cells (bts x) 35)) w.heap.size 35 x := Bk.newAt _ x rfl
  have HX := Lib.hid hxb
  clear hxb
  go_enter Try.func6, Try.ntmps6
  go_wp2_with (refine wpList_loadB (o := ⟨some 10, _, _, _, _, _⟩) rfl 35 (.tmp 1) rfl _ rfl HX.out Try.underlying35 (by rw [LX.out]; exact sz16) ?_)
  refine (enc_none x LX.out _).mono ?_
  rintro e w1 ⟨rfl, hb1⟩
  have HX1 := Lib.hid (HX.out.ab hb1)
  have HB1 := Lib.hid (((Below.refl w.heap.size w).alloc (Nat.le_refl _) (.cells (bts x) 35)).trans (hb1.mono (by simp)))
  have hX2 : Bk ((w1.alloc (.cells (bts z16) 35)).setRow w1.heap.size (bts z16)) w.heap.size 35 x := (HX1.out.alloc _).rowFar (by have := HX1.out.lt; omega) _
  have hZ2 : Bk ((w1.alloc (.cells (bts z16) 35)).setRow w1.heap.size (bts z16)) w1.heap.size 35 z16 := (Bk.new w1 _ _).row z16
  have HX2 := Lib.hid hX2
  have HZ2 := Lib.hid hZ2
  have HB2 := Lib.hid (Below.row (HB1.out.alloc HB1.out.size (.cells (bts z16) 35)) HB1.out.size (bts z16))
  clear hb1 hX2 hZ2
  go_wp2_with (first
    | (refine wpList_storeB (o := ⟨none, .store _ (.tmp 4) (.tmp 12), _, _, _, _⟩) rfl 35 (.tmp 4) (.tmp 12) rfl _ rfl z16 rfl (Bk.new w1 35 z16) sz16 rfl ?_)
    | (refine wpList_loadB (o := ⟨some 16, _, _, _, _, _⟩) rfl 35 (.tmp 1) rfl _ rfl HX2.out Try.underlying35 (by rw [LX.out]; exact sz16) ?_))
  refine (dec_none x LX.out _).mono ?_
  rintro e w3 ⟨rfl, hb3⟩
  have HZ3 := Lib.hid (HZ2.out.ab hb3)
  have HB3 := Lib.hid (HB2.out.trans (hb3.mono HB2.out.size))
  have hZ4 : Bk ((w3.alloc (.cells (bts z16) 35)).setRow w3.heap.size (bts z16)) w1.heap.size 35 z16 := (HZ3.out.alloc _).rowFar (by have := HZ3.out.lt; omega) _
  have hY4 : Bk ((w3.alloc (.cells (bts z16) 35)).setRow w3.heap.size (bts z16)) w3.heap.size 35 z16 := (Bk.new w3 _ _).row z16
  have HZ4 := Lib.hid hZ4
  have HY4 := Lib.hid hY4
  have HB4 := Lib.hid (Below.row (HB3.out.alloc HB3.out.size (.cells (bts z16) 35)) HB3.out.size (bts z16))
  clear hb3 hZ4 hY4
  go_wp2_with (first
    | (refine wpList_storeB (o := ⟨none, .store _ (.tmp 6) (.tmp 18), _, _, _, _⟩) rfl 35 (.tmp 6) (.tmp 18) rfl _ rfl z16 rfl (Bk.new w3 35 z16) sz16 rfl ?_)
    | (refine wpList_loadB (o := ⟨some 20, _, _, _, _, _⟩) rfl 35 (.tmp 4) rfl _ rfl HZ4.out Try.underlying35 sz16 ?_)
    | (refine wpList_loadBg (o := ⟨some 24, _, _, _, _, _⟩) (by rfl) 35 (.tmp 6) rfl _ rfl HY4.out Try.underlying35 sz16 ?_))
  refine (known3_any _).mono ?_
  rintro e w5 ⟨rfl, hb5⟩
  have HB5 := Lib.hid (HB4.out.trans (hb5.mono HB4.out.size))
  clear hb5
  go_wp2_with fail
  go_ret
  exact ⟨rfl, HB5.out⟩
set_option maxRecDepth 100000 in
theorem none_walk (v : Value) (w : World) (hk : ∃ base, Value.okWide Try.prog w .any base 35 v) {H : Type} {enc : TypeId × Value → H} {d : DataW H} {p : List MemPlace} (_ : DataW.Trod enc Try.prog w 0 (fun _ => true) true 35 v d p) (_ : ∀ x ∈ p, x.block < w.heap.size) :
    Calls Try.prog 6 #[v] w fun e w' => e = .returned (.bool true) ∧ Below w.heap.size w w' := by
  obtain ⟨base, hk⟩ := hk
  obtain ⟨x, rfl, hx, lx⟩ := open16 hk
  exact none_any x w hx lx
end Go.Proofs.Ytfchlemjfdlfeaa
