/-
  WALKS: octet.Xor and octet.Same; the reference's Bit and Add (ref04).
  WALKS: the reference's First and Next (ref05).
  WALKS: the reference's Bit, Add and Full (ref04).
-/
import Derived.Test.YtakgebbeknfplaaGreatGhT
import Derived.Test.YtakgebbeknfplaaGreatGcP
import Derived.Test.YtakgebbeknfplaaGreatCtF
import Derived.Test.YtakgebbeknfplaaGreatGhA
namespace Go.Proofs.YtakgebbeknfplaaGreat
open Go.RowKit
set_option linter.unusedVariables false

set_option maxRecDepth 100000 in
set_option maxHeartbeats 2000000 in
theorem xor_any (A B : Option Addr) (n c d : Nat) (la lb : List Nat) (w : World) (ha : IsB w A n c la) (hb : IsB w B n d lb) (hn : n ≤ 281474976710656) :
    Calls Tryz.prog 264 #[.slice A n c, .slice B n d] w (OutB w (xorL la lb) 0) := by
  have hla := ha.len
  have hlb := hb.len
  have hlx : (xorL la lb).length = n := by rw [xorL_len]; omega
  have hbx := xorL_byt ha.2 hb.2
  have hxa := fun i => xorL_at (a := la) (b := lb) (by omega) i
  have hmk : ∀ W : World, (Instr.makeSlice 22 (.int .i64 (n : Int)) (.int .i64 (n : Int))).run Tryz.prog W = .ok (.slice (some ⟨W.heap.size, 0, none⟩) n n) (W.alloc (.cells (bts (zeros n)) 5)) := fun W => make_u8 n n (Nat.le_refl _) hn W
  have hne : ((n : Int) != (n : Int)) = false := by simp
  have HA := Lib.hid ha
  have HB := Lib.hid hb
  have HN := Lib.hid hn
  have HLX := Lib.hid hlx
  have HBX := Lib.hid hbx
  have HXA := Lib.hid hxa
  clear ha hb hla hlb hlx hbx hxa
  generalize xorL la lb = z at *
  go_enter Tryz.func264, Tryz.ntmps264
  go_wp2_with fail
  have V0 : Hid (Bk (w.alloc (.cells (bts (zeros n)) 5)) w.heap.size 5 (upd (at' z) (zeros n) 0)) := Lib.hid (by rw [upd_zero]; exact Bk.newAt _ _ rfl)
  have V1 : Hid (Below w.heap.size w (w.alloc (.cells (bts (zeros n)) 5))) := Lib.hid ((Below.refl _ _).alloc (Nat.le_refl _) _)
  go_loopw [7, 18] (fun _ j wr => ∃ i : Nat, i ≤ n ∧ j = .int .i64 i ∧ Bk wr w.heap.size 5 (upd (at' z) (zeros n) i) ∧ Below w.heap.size w wr) (fun _ j _ => n - (intOf j).toNat)
  case atStart => exact ⟨0, Nat.zero_le _, rfl, V0.out, V1.out⟩
  case round =>
    obtain ⟨i, hi, rfl, k1, kb⟩ := hrel
    clear V0 V1 hmk
    by_cases hlt : i < n
    · have hii : (i : Int) < (n : Int) := by omega
      have hib : (i : Int) ≤ 281474976710656 := by have := HN.out; omega
      obtain ⟨x, rfl, hxb, hxc⟩ := HA.out.cell (by omega)
      obtain ⟨y, rfl, hyb, hyc⟩ := HB.out.cell (by omega)
      have c1 : wr.cell? (x.add i) = some (.int .u8 (at' la i : Nat)) := (kb.cell (by rw [add_block]; exact hxb)).trans (hxc i hlt)
      have c2 : wr.cell? (y.add i) = some (.int .u8 (at' lb i : Nat)) := (kb.cell (by rw [add_block]; exact hyb)).trans (hyc i hlt)
      have h1 := HA.out.2.at' i
      have h2 := HB.out.2.at' i
      have hz := HXA.out i
      have co := k1.cell (k := i) (by rw [upd_len, zeros_len]; exact hlt)
      have cf := k1.free i
      have hst := k1.set i (at' z i)
      rw [upd_step (at' z) (zeros n) i (by rw [zeros_len]; exact hlt)] at hst
      generalize (upd (at' z) (zeros n) i)[i]?.getD 0 = u at co
      generalize at' la i = p at *
      generalize at' lb i = q at *
      rw [hz] at hst
      have hxo := bits_xor_u8 p q h1 h2
      have N1 := Lib.hid hst
      have N2 := Lib.hid (kb.setCell (p := ⟨w.heap.size, i, none⟩) (Nat.le_refl _) (.int .u8 ((p ^^^ q : Nat) : Int)))
      clear hst k1 kb hz hxc hyc hxb hyb
      go_wp2_with fail
      refine wp_still_tail 12 (by kernel_rfl) (by kernel_rfl) ?_
      simp only [List.take_succ_cons, List.take_zero, List.drop_succ_cons, List.drop_zero]
      repeat still_step
      refine wpStill_nil ?_
      go_wp2_with fail
      go_roundw
      case rel => exact ⟨i + 1, by omega, by go_num, N1.out, N2.out.drew⟩
      case measure => simp [intOf]; omega
    · obtain rfl : i = n := by omega
      have hall := upd_all (at' z) (zeros i)
      rw [zeros_len] at hall
      have e : (List.range i).map (at' z) = z := by
        refine at'_ext (by simp [HLX.out]) fun j hj => ?_
        have hj : j < i := by simpa using hj
        simp [at', hj]
      rw [hall, e] at k1
      have K1 := Lib.hid k1
      have KB := Lib.hid kb
      clear k1 kb hall e
      go_wp2_with fail
      go_ret2
      exact ⟨_, rfl, OwB.ofBk K1.out (Nat.le_refl _) HLX.out (Nat.le_refl _) HLX.out (by have := HN.out; omega) (List.take_of_length_le (by rw [HLX.out]; exact Nat.le_refl _)) HBX.out, KB.out⟩

theorem xor_zero_iff (a b : Nat) : a ^^^ b = 0 ↔ a = b := by
  constructor
  · intro h
    have := xor_cancel a b
    rw [h, Nat.zero_xor] at this
    exact this.symm
  · intro h; rw [h, Nat.xor_self]
def offB (la lb : List Nat) : Nat → Nat
  | 0 => 0
  | i + 1 => offB la lb i ||| (at' la i ^^^ at' lb i)
theorem offB_lt {la lb : List Nat} (ha : Byt la) (hb : Byt lb) (i : Nat) : offB la lb i < 256 := by
  induction i with
  | zero => exact (by decide : 0 < 256)
  | succ i ih => exact Nat.or_lt_two_pow (n := 8) ih (Nat.xor_lt_two_pow (n := 8) (ha.at' i) (hb.at' i))
theorem offB_zero {la lb : List Nat} (n : Nat) : offB la lb n = 0 ↔ ∀ i, i < n → at' la i = at' lb i := by
  induction n with
  | zero => simp [offB]
  | succ n ih =>
    rw [offB, Nat.or_eq_zero_iff, ih, xor_zero_iff]
    constructor
    · intro ⟨h1, h2⟩ i hi
      by_cases e : i = n
      · rw [e]; exact h2
      · exact h1 i (by omega)
    · intro h
      exact ⟨fun i hi => h i (by omega), h n (by omega)⟩
set_option maxRecDepth 100000 in
set_option maxHeartbeats 2000000 in
theorem osame_any (A B : Option Addr) (n c d : Nat) (la lb : List Nat) (w : World) (ha : IsB w A n c la) (hb : IsB w B n d lb) (hn : n ≤ 281474976710656) :
    Calls Tryz.prog 174 #[.slice A n c, .slice B n d] w fun e w' => e = .returned (.bool (decide (la = lb))) ∧ Below w.heap.size w w' := by
  have hla := ha.len
  have hlb := hb.len
  have hne : ((n : Int) != (n : Int)) = false := by simp
  have hfin : (((offB la lb n : Nat) : Int) == 0) = decide (la = lb) := by
    have h0 := offB_zero (la := la) (lb := lb) n
    by_cases h : la = lb
    · rw [decide_eq_true h, beq_iff_eq]
      have := h0.2 (fun i _ => by rw [h])
      omega
    · rw [decide_eq_false h, beq_eq_false_iff_ne]
      intro e
      exact h (at'_ext (by omega) fun i hi => h0.1 (by omega) i (by omega))
  have HA := Lib.hid ha
  have HB := Lib.hid hb
  have HN := Lib.hid hn
  have HF := Lib.hid hfin
  clear ha hb hla hlb hfin
  go_enter Tryz.func174, Tryz.ntmps174
  go_wp2_with fail
  go_loopw [5, 6, 14] (fun v _ j wr => ∃ i : Nat, i ≤ n ∧ j = .int .i64 i ∧ v = .int .u8 (offB la lb i : Nat) ∧ Below w.heap.size w wr) (fun _ _ j _ => n - (intOf j).toNat)
  case atStart => exact ⟨0, Nat.zero_le _, rfl, rfl, Below.refl _ _⟩
  case round =>
    obtain ⟨i, hi, rfl, rfl, kb⟩ := hrel
    by_cases hlt : i < n
    · have hii : (i : Int) < (n : Int) := by omega
      have hib : (i : Int) ≤ 281474976710656 := by have := HN.out; omega
      obtain ⟨x, rfl, hxb, hxc⟩ := HA.out.cell (by omega)
      obtain ⟨y, rfl, hyb, hyc⟩ := HB.out.cell (by omega)
      have c1 : wr.cell? (x.add i) = some (.int .u8 (at' la i : Nat)) := (kb.cell (by rw [add_block]; exact hxb)).trans (hxc i hlt)
      have c2 : wr.cell? (y.add i) = some (.int .u8 (at' lb i : Nat)) := (kb.cell (by rw [add_block]; exact hyb)).trans (hyc i hlt)
      have h1 := HA.out.2.at' i
      have h2 := HB.out.2.at' i
      have h3 := offB_lt HA.out.2 HB.out.2 i
      have hz : offB la lb (i + 1) = offB la lb i ||| (at' la i ^^^ at' lb i) := rfl
      generalize offB la lb i = o at *
      generalize at' la i = p at *
      generalize at' lb i = q at *
      have hxo := bits_xor_u8 p q h1 h2
      have hxl := xor_lt256 h1 h2
      generalize p ^^^ q = pq at *
      have hor := bits_or_u8 o pq h3 hxl
      have HZ := Lib.hid hz
      have KB := Lib.hid kb
      clear kb hz hxc hyc hxb hyb
      go_wp2_with fail
      refine wp_still_tail 11 (by kernel_rfl) (by kernel_rfl) ?_
      simp only [List.take_succ_cons, List.take_zero, List.drop_succ_cons, List.drop_zero]
      repeat still_step
      refine wpStill_nil ?_
      go_wp2_with fail
      go_roundw
      case rel => exact ⟨i + 1, by omega, by go_num, by rw [HZ.out], KB.out.drew⟩
      case measure => simp [intOf]; omega
    · obtain rfl : i = n := by omega
      generalize offB la lb i = o at *
      have KB := Lib.hid kb
      clear kb
      go_wp2_with fail
      go_ret
      exact ⟨by rw [← HF.out]; rfl, KB.out⟩
end Go.Proofs.YtakgebbeknfplaaGreat

namespace Go.Proofs.YtakgebbeknfplaaGreat
open Go.RowKit
set_option linter.unusedVariables false

theorem upd_same (f : Nat → Nat) (s : List Nat) (k : Nat) (h : ∀ i, i < k → i < s.length → f i = at' s i) : upd f s k = s := by
  refine at'_ext (upd_len f s k) fun i hi => ?_
  rw [upd_len] at hi
  show (upd f s k)[i]?.getD 0 = _
  rw [upd_get f s k i hi]
  by_cases hk : i < k
  · rw [if_pos hk]; exact h i hk hi
  · rw [if_neg hk]; rfl
theorem at_right (l m : List Nat) {j : Nat} (h : l.length ≤ j) : at' (l ++ m) j = at' m (j - l.length) := by simp [at', List.getElem?_append_right h]
theorem firstC_at {l : List Nat} (hl : l.length = 12) {i : Nat} (hi : i < 12) : at' (firstC l) i = at' l i := by simp [firstC, at', List.getElem?_append_left (show i < l.length by omega)]
theorem first_upd {l : List Nat} (hl : l.length = 12) : (upd (at' l) z16 12).set 15 1 = firstC l := by
  refine at'_ext (by rw [List.length_set, upd_len, firstC_len hl]; rfl) fun i hi => ?_
  rw [List.length_set, upd_len] at hi
  have hi : i < 16 := hi
  have e1 : at' ((upd (at' l) z16 12).set 15 1) i = if i = 15 then 1 else at' (upd (at' l) z16 12) i := at_set _ _ _ _ (by rw [upd_len]; decide)
  rw [e1]
  have e2 : at' (upd (at' l) z16 12) i = if i < 12 then at' l i else at' z16 i := upd_get (at' l) z16 12 i hi
  by_cases h15 : i = 15
  · subst h15
    rw [if_pos rfl, firstC, at_right l _ (by omega), hl]
    rfl
  · rw [if_neg h15, e2]
    by_cases h12 : i < 12
    · rw [if_pos h12, firstC_at hl h12]
    · rw [if_neg h12]
      have : i = 12 ∨ i = 13 ∨ i = 14 := by omega
      rcases this with rfl | rfl | rfl <;> (rw [firstC, at_right l _ (by omega), hl]; rfl)

set_option maxRecDepth 100000 in
set_option maxHeartbeats 2000000 in
theorem rFirst_any (A : Option Addr) (c : Nat) (l : List Nat) (w : World) (hin : IsB w A 12 c l) :
    Calls Tryz.prog 282 #[.slice A 12 c] w fun e w' => e = .returned (.agg (bts (firstC l))) ∧ Below w.heap.size w w' := by
  have hl := hin.len
  obtain ⟨x, rfl, hxb, hxc⟩ := hin.cell (by decide)
  have hsp := first_upd hl
  have h16 : (firstC l).length = 16 := firstC_len hl
  have hb1 : Bk ((w.alloc (.cells (bts z16) 365)).alloc (.cells (bts z16) 365)) w.heap.size 365 z16 := (Bk.newAt _ z16 rfl).alloc _
  have hb2 : Bk ((w.alloc (.cells (bts z16) 365)).alloc (.cells (bts z16) 365)) (w.heap.size + 1) 365 (upd (at' l) z16 0) := by rw [upd_zero]; exact Bk.newAt _ z16 (by simp)
  have hbl : Below w.heap.size w ((w.alloc (.cells (bts z16) 365)).alloc (.cells (bts z16) 365)) := ((Below.refl _ _).alloc (Nat.le_refl _) _).alloc (Nat.le_of_lt (by simp)) _
  have HXC := Lib.hid hxc
  have HXB := Lib.hid hxb
  have HSP := Lib.hid hsp
  have H16 := Lib.hid h16
  have B1 := Lib.hid hb1
  have B2 := Lib.hid hb2
  have BL := Lib.hid hbl
  have HBY := Lib.hid hin.2
  clear hin hl hxc hxb hsp h16 hb1 hb2 hbl
  generalize firstC l = y at *
  go_enter Tryz.func282, Tryz.ntmps282
  go_wp2_with fail
  go_loopw [4] (fun j wr => ∃ i : Nat, i ≤ 12 ∧ j = .int .i64 i ∧ Bk wr w.heap.size 365 z16 ∧ Bk wr (w.heap.size + 1) 365 (upd (at' l) z16 i) ∧ Below w.heap.size w wr) (fun j _ => 12 - (intOf j).toNat)
  case atStart => exact ⟨0, by omega, rfl, B1.out, B2.out, BL.out⟩
  case round =>
    obtain ⟨i, hi, rfl, k1, k2, kb⟩ := hrel
    by_cases hlt : i < 12
    · have hii : (i : Int) < 12 := by omega
      have hcl : wr.cell? (x.add i) = some (.int .u8 (at' l i : Nat)) := (kb.cell (by rw [add_block]; exact HXB.out)).trans (HXC.out i hlt)
      have hoc := k2.cell (k := i) (by rw [upd_len]; show i < 16; omega)
      have hof := k2.free i
      have hst := k2.set i (at' l i)
      rw [upd_step (at' l) z16 i (by show i < 16; omega)] at hst
      generalize (upd (at' l) z16 i)[i]?.getD 0 = u at hoc
      have N1 := Lib.hid (k1.far (c := w.heap.size + 1) (k := i) (by omega) (.int .u8 (at' l i : Nat)))
      have N2 := Lib.hid hst
      have N3 := Lib.hid (kb.setCell (p := ⟨w.heap.size + 1, i, none⟩) (by show w.heap.size ≤ w.heap.size + 1; omega) (.int .u8 (at' l i : Nat)))
      generalize at' l i = v at *
      clear hst k1 k2 kb
      go_wp2_with fail
      go_roundw
      case rel => exact ⟨i + 1, by omega, by go_num, N1.out, N2.out, N3.out⟩
      case measure => simp [intOf]; omega
    · obtain rfl : i = 12 := by omega
      have hoc := k2.cell (k := 15) (by rw [upd_len]; decide)
      have hof := k2.free 15
      have hst := k2.set 15 1
      rw [HSP.out] at hst
      generalize (upd (at' l) z16 12)[15]?.getD 0 = u at hoc
      have T1 := Lib.hid hst
      have T2 := Lib.hid (k1.far (c := w.heap.size + 1) (k := 15) (by omega) (.int .u8 ((1 : Nat) : Int)))
      have T3 := Lib.hid (kb.setCell (p := ⟨w.heap.size + 1, 15, none⟩) (by show w.heap.size ≤ w.heap.size + 1; omega) (.int .u8 ((1 : Nat) : Int)))
      clear hst k1 k2 kb
      go_wp2_with (refine wpList_loadB (l := y) (o := ⟨some 16, _, _, _, _, _⟩) rfl 365 (.tmp 3) rfl (w.heap.size + 1) rfl (t := 365) ?_ Tryz.underlying365 (by rw [H16.out]; exact sz16) ?_
                   · exact T1.out
                   refine wpList_storeB (l := z16) (o := ⟨none, .store _ (.tmp 2) (.tmp 16), _, _, _, _⟩) rfl 365 (.tmp 2) (.tmp 16) rfl w.heap.size rfl y rfl (t := 365) ?_ (by rw [H16.out]; exact sz16) (by rw [H16.out]; rfl) ?_
                   · exact T2.out)
      refine bodyPost_ret (results_bts Tryz.results282 _ _ _ rfl (T2.out.row y) Tryz.underlying365 (by rw [H16.out]; exact sz16)) rfl ?_
      exact ⟨rfl, Below.row T3.out (Nat.le_refl _) _⟩

theorem nextC_at_lo {c : List Nat} (lc : c.length = 16) {i : Nat} (hi : i < 12) : at' (nextC c) i = at' c i := by
  have : at' (c.take 12 ++ digB ((numB (c.drop 12) + 1) % 4294967296) 4) i = at' (c.take 12) i := by simp [at', List.getElem?_append_left (show i < (c.take 12).length by simp; omega)]
  rw [nextC, this]
  simp [at', hi]
theorem nextC_at_hi {c : List Nat} (lc : c.length = 16) {i : Nat} : at' (nextC c) (12 + i) = at' (digB ((numB (c.drop 12) + 1) % 4294967296) 4) i := by
  rw [nextC, at_right _ _ (by simp; omega)]
  simp [lc]
set_option maxRecDepth 100000 in
set_option maxHeartbeats 2000000 in
theorem rNext_any (c : List Nat) (hc : Byt c) (lc : c.length = 16) (w : World) :
    Calls Tryz.prog 283 #[.agg (bts c)] w fun e w' => e = .returned (.agg (bts (nextC c))) ∧ Below w.heap.size w w' := by
  have hk1 : Bk ((w.alloc (.cells (bts c) 365)).alloc (.cells (bts z16) 365)) w.heap.size 365 c := (Bk.new w _ c).alloc _
  have hk2 : Bk ((w.alloc (.cells (bts c) 365)).alloc (.cells (bts z16) 365)) (w.heap.size + 1) 365 z16 := Bk.newAt _ z16 (by simp)
  have hbl : Below w.heap.size w ((w.alloc (.cells (bts c) 365)).alloc (.cells (bts z16) 365)) := ((Below.refl _ _).alloc (Nat.le_refl _) _).alloc (Nat.le_of_lt (by simp)) _
  have c12 : (bts c)[12]? = some (.int .u8 (at' c 12 : Nat)) := bts_get c 12 (by omega)
  have c13 : (bts c)[13]? = some (.int .u8 (at' c 13 : Nat)) := bts_get c 13 (by omega)
  have c14 : (bts c)[14]? = some (.int .u8 (at' c 14 : Nat)) := bts_get c 14 (by omega)
  have c15 : (bts c)[15]? = some (.int .u8 (at' c 15 : Nat)) := bts_get c 15 (by omega)
  obtain ⟨D, hD⟩ : ∃ D, D = [at' c 12, at' c 13, at' c 14, at' c 15] := ⟨_, rfl⟩
  have hDc : c.drop 12 = D := by
    rw [hD]
    refine at'_ext (by simp [lc]) fun i hi => ?_
    have hi : i < 4 := by simpa [lc] using hi
    rw [at'_drop]
    have : i = 0 ∨ i = 1 ∨ i = 2 ∨ i = 3 := by omega
    rcases this with rfl | rfl | rfl | rfl <;> rfl
  have hDb : Byt D := by rw [← hDc]; exact fun x hx => hc x (List.mem_of_mem_drop hx)
  have hm := numB_drop12 hc lc
  have hlo := fun i (hi : i < 12) => nextC_at_lo lc hi
  have hhi := fun i => nextC_at_hi (i := i) lc
  have lz : (nextC c).length = 16 := nextC_len lc
  obtain ⟨q, hq⟩ : ∃ q, q = (numB (c.drop 12) + 1) % 4294967296 := ⟨_, rfl⟩
  have hq32 : q < 4294967296 := by rw [hq]; exact Nat.mod_lt _ (by decide)
  rw [← hq] at hhi
  have hK3 : IsB ((((w.alloc (.cells (bts c) 365)).alloc (.cells (bts z16) 365))).alloc (.cells (bts D) 5)) (some ⟨w.heap.size + 1 + 1, 0, none⟩) 4 4 D := isB_whole (Bk.newAt _ D (by simp)) hDb (by rw [hD]; rfl) (by decide)
  rw [hDc] at hm hq
  obtain ⟨m, hM⟩ : ∃ m, numB D = m := ⟨_, rfl⟩
  rw [hM] at hm hq
  have hw1 := wrap_u64' (n := 4294967297) (by decide) ((m : Int) + 1) (by omega) (by omega)
  have hw2 : ((m : Int) + 1) % 4294967296 = (q : Int) := by omega
  have K1 := Lib.hid (hk1.alloc (.cells (bts D) 5))
  have K2 := Lib.hid (hk2.alloc (.cells (bts D) 5))
  have KB := Lib.hid (hbl.alloc hbl.size (.cells (bts D) 5))
  have HM := Lib.hid hM
  have HLO := Lib.hid hlo
  have HHI := Lib.hid hhi
  have LZ := Lib.hid lz
  have LC := Lib.hid lc
  have HQ : Hid (q < 256 ^ 4) := Lib.hid hq32
  subst hD
  have H3 := Lib.hid hK3
  clear hk1 hk2 hbl hDc hDb hlo hhi lz hq hM hK3
  generalize nextC c = z at *
  go_enter Tryz.func283, Tryz.ntmps283
  go_wp2_with fail
  refine (number_any (some ⟨w.heap.size + 1 + 1, 0, none⟩) 4 4 [at' c 12, at' c 13, at' c 14, at' c 15] _ H3.out (by decide) (by decide)).mono ?_
  rintro e w' ⟨rfl, rfl⟩
  rw [HM.out]
  go_wp2_with fail
  refine (of_any q 4 _ (by omega) (by decide) (by decide)).mono ?_
  rintro e w1 ⟨rfl, hbk, hbw⟩
  have R1 : Hid (Bk w1 w.heap.size 365 (upd (at' z) c (12 + 0))) := Lib.hid (by
    rw [upd_same _ _ _ (fun i hi _ => HLO.out i (by omega))]
    exact K1.out.ab hbw)
  have R2 : Hid (Bk w1 (w.heap.size + 1) 365 z16) := Lib.hid (K2.out.ab hbw)
  have R3 : Hid (Below w.heap.size w w1) := Lib.hid (below_tr KB.out hbw KB.out.size)
  have R4 : Hid (Bk w1 (w.heap.size + 1 + 1 + 1) 5 (digB q 4)) := Lib.hid (by simpa using hbk)
  clear hbk hbw K1 K2 KB H3 c12 c13 c14 c15
  go_wp2_with fail
  go_loopw [6] (fun j wr => ∃ i : Nat, i ≤ 4 ∧ j = .int .i64 i ∧ Bk wr w.heap.size 365 (upd (at' z) c (12 + i)) ∧ Bk wr (w.heap.size + 1) 365 z16 ∧ Bk wr (w.heap.size + 1 + 1 + 1) 5 (digB q 4) ∧ Below w.heap.size w wr) (fun j _ => 4 - (intOf j).toNat)
  case atStart => exact ⟨0, by omega, rfl, R1.out, R2.out, R4.out, R3.out⟩
  case round =>
    obtain ⟨i, hi, rfl, k1, k2, k3, kb⟩ := hrel
    by_cases hlt : i < 4
    · have hii : (i : Int) < 4 := by omega
      have hcl := k3.cell (k := i) (by rw [digB_len]; exact hlt)
      have hoc := k1.cell (k := 12 + i) (by rw [upd_len, LC.out]; omega)
      have hof := k1.free (12 + i)
      have hst := k1.set (12 + i) (at' z (12 + i))
      rw [upd_step (at' z) c (12 + i) (by rw [LC.out]; omega)] at hst
      have e : (digB q 4)[i]?.getD 0 = at' z (12 + i) := (HHI.out i).symm
      rw [e] at hcl
      generalize (upd (at' z) c (12 + i))[12 + i]?.getD 0 = u at hoc
      have N1 := Lib.hid hst
      have N2 := Lib.hid (k2.far (c := w.heap.size) (k := 12 + i) (by omega) (.int .u8 (at' z (12 + i) : Nat)))
      have N3 := Lib.hid (k3.far (c := w.heap.size) (k := 12 + i) (by omega) (.int .u8 (at' z (12 + i) : Nat)))
      have N4 := Lib.hid (kb.setCell (p := ⟨w.heap.size, 12 + i, none⟩) (Nat.le_refl _) (.int .u8 (at' z (12 + i) : Nat)))
      have hi1 : IntKind.i64.wrap (12 + (i : Int)) = 12 + (i : Int) := IntWalk.i64_in _ (by omega)
      have hi2 : (12 + (i : Int)).toNat = 12 + i := by omega
      generalize at' z (12 + i) = v at *
      clear hst k1 k2 k3 kb e
      go_wp2_with fail
      go_roundw
      case rel => exact ⟨i + 1, by omega, by go_num, N1.out, N2.out, N3.out, N4.out⟩
      case measure => simp [intOf]; omega
    · obtain rfl : i = 4 := by omega
      have hall : upd (at' z) c (12 + 4) = z := by
        refine at'_ext (by rw [upd_len, LC.out, LZ.out]) fun i hi => ?_
        rw [upd_len] at hi
        show (upd (at' z) c (12 + 4))[i]?.getD 0 = _
        rw [upd_get _ _ _ _ hi, if_pos (by rw [LC.out] at hi; omega)]
      rw [hall] at k1
      have T1 := Lib.hid k1
      have T2 := Lib.hid k2
      have T3 := Lib.hid kb
      clear k1 k2 k3 kb hall
      go_wp2_with (refine wpList_loadB (l := z) (o := ⟨some 35, _, _, _, _, _⟩) rfl 365 (.tmp 1) rfl w.heap.size rfl (t := 365) ?_ Tryz.underlying365 (by rw [LZ.out]; exact sz16) ?_
                   · exact T1.out
                   refine wpList_storeB (l := z16) (o := ⟨none, .store _ (.tmp 2) (.tmp 35), _, _, _, _⟩) rfl 365 (.tmp 2) (.tmp 35) rfl (w.heap.size + 1) rfl z rfl (t := 365) ?_ (by rw [LZ.out]; exact sz16) (by rw [LZ.out]; rfl) ?_
                   · exact T2.out)
      refine bodyPost_ret (results_bts Tryz.results283 _ _ _ rfl (T2.out.row z) Tryz.underlying365 (by rw [LZ.out]; exact sz16)) rfl ?_
      exact ⟨rfl, Below.row T3.out (by omega) _⟩
end Go.Proofs.YtakgebbeknfplaaGreat

namespace Go.Proofs.YtakgebbeknfplaaGreat
open Go.RowKit
set_option linter.unusedVariables false

set_option maxRecDepth 100000 in
set_option maxHeartbeats 1000000 in
theorem bit4_any (y : List Nat) (hy : Byt y) (ly : y.length = 16) (i : Nat) (hi : i < 128) (w : World) :
    Calls Tryz.prog 349 #[.agg (bts y), .int .i64 (i : Int)] w fun e w' => e = .returned (.int .i64 (bitB y i : Nat)) ∧ Below w.heap.size w w' := by
  obtain ⟨k, hk⟩ : ∃ k, k = i / 8 := ⟨_, rfl⟩
  obtain ⟨r, hr⟩ : ∃ r, r = i % 8 := ⟨_, rfl⟩
  have hk16 : k < 16 := by omega
  have hr8 : r < 8 := by omega
  have hb : bitB y i = at' y k / 2 ^ (7 - r) % 2 := by rw [hk, hr]; rfl
  have c1 : (bts y)[k]? = some (.int .u8 (at' y k : Nat)) := bts_get y k (by omega)
  have hv := hy.at' k
  have q1 : (i : Int) / 8 = (k : Int) := by omega
  have q2 : (i : Int) % 8 = (r : Int) := by omega
  have q3 : (i : Int).tdiv 8 = (k : Int) := by rw [Int.tdiv_eq_ediv_of_nonneg (by omega)]; exact q1
  have q4 : (i : Int).tmod 8 = (r : Int) := by rw [Int.tmod_eq_emod_of_nonneg (by omega)]; exact q2
  have hki : (k : Int) < 16 := by omega
  have hri : (r : Int) < 8 := by omega
  have t1 : (7 - (r : Int)).toNat = 7 - r := by omega
  generalize at' y k = v at *
  have hdv : (v : Int) / 2 ^ (7 - r) = ((v / 2 ^ (7 - r) : Nat) : Int) := by simp
  have hdl : v / 2 ^ (7 - r) ≤ v := Nat.div_le_self _ _
  generalize v / 2 ^ (7 - r) = dv at *
  have HB := Lib.hid hb
  clear hb hk hr hy ly
  go_enter Tryz.func349, Tryz.ntmps349
  go_wp2_with fail
  go_ret
  exact ⟨by rw [HB.out]; rfl, (Below.refl _ _).alloc (Nat.le_refl _) _⟩

set_option maxRecDepth 100000 in
set_option maxHeartbeats 2000000 in
theorem add4_any (x y : List Nat) (hx : Byt x) (lx : x.length = 16) (hy : Byt y) (ly : y.length = 16) (w : World) :
    Calls Tryz.prog 281 #[.agg (bts x), .agg (bts y)] w fun e w' => e = .returned (.agg (bts (xorL x y))) ∧ Below w.heap.size w w' := by
  have hlx : (xorL x y).length = 16 := by rw [xorL_len]; omega
  have hxa := fun i => xorL_at (a := x) (b := y) (by omega) i
  have hall : upd (at' (xorL x y)) x 16 = xorL x y := by
    refine at'_ext (by rw [upd_len]; omega) fun i hi => ?_
    rw [upd_len] at hi
    show (upd (at' (xorL x y)) x 16)[i]?.getD 0 = _
    rw [upd_get _ _ _ _ hi, if_pos (by omega)]
  generalize xorL x y = z at *
  have LX := Lib.hid lx
  have LY := Lib.hid ly
  have LZ := Lib.hid hlx
  have HXA := Lib.hid hxa
  have HALL := Lib.hid hall
  have S1 : Hid (Bk (((w.alloc (.cells (bts x) 365)).alloc (.cells (bts y) 365)).alloc (.cells (bts z16) 365)) w.heap.size 365 (upd (at' z) x 0)) := Lib.hid (by rw [upd_zero]; exact ((Bk.newAt _ x rfl).alloc _).alloc _)
  have S2 : Hid (Bk (((w.alloc (.cells (bts x) 365)).alloc (.cells (bts y) 365)).alloc (.cells (bts z16) 365)) (w.heap.size + 1) 365 y) := Lib.hid ((Bk.newAt _ y (by simp)).alloc _)
  have S3 : Hid (Bk (((w.alloc (.cells (bts x) 365)).alloc (.cells (bts y) 365)).alloc (.cells (bts z16) 365)) (w.heap.size + 1 + 1) 365 z16) := Lib.hid (Bk.newAt _ z16 (by simp))
  have S4 : Hid (Below w.heap.size w (((w.alloc (.cells (bts x) 365)).alloc (.cells (bts y) 365)).alloc (.cells (bts z16) 365))) := Lib.hid ((((Below.refl _ _).alloc (Nat.le_refl _) _).alloc (Nat.le_of_lt (by simp)) _).alloc (by simp; omega) _)
  clear lx ly hlx hxa hall
  go_enter Tryz.func281, Tryz.ntmps281
  go_wp2_with fail
  go_loopw [5] (fun j wr => ∃ i : Nat, i ≤ 16 ∧ j = .int .i64 i ∧ Bk wr w.heap.size 365 (upd (at' z) x i) ∧ Bk wr (w.heap.size + 1) 365 y ∧ Bk wr (w.heap.size + 1 + 1) 365 z16 ∧ Below w.heap.size w wr) (fun j _ => 16 - (intOf j).toNat)
  case atStart => exact ⟨0, Nat.zero_le _, rfl, S1.out, S2.out, S3.out, S4.out⟩
  case round =>
    obtain ⟨i, hi, rfl, k1, k2, k3, kb⟩ := hrel
    clear S1 S2 S3 S4
    by_cases hlt : i < 16
    · have hii : (i : Int) < 16 := by omega
      have c1 := k1.cell (k := i) (by rw [upd_len, LX.out]; exact hlt)
      have e1 : (upd (at' z) x i)[i]?.getD 0 = at' x i := by rw [upd_get _ _ _ _ (by rw [LX.out]; exact hlt), if_neg (by omega)]; rfl
      rw [e1] at c1
      have c2 := k2.cell (k := i) (by rw [LY.out]; exact hlt)
      rw [show y[i]?.getD 0 = at' y i from rfl] at c2
      have f1 := k1.free i
      have h1 := hx.at' i
      have h2 := hy.at' i
      have hz := HXA.out i
      have hst := k1.set i (at' z i)
      rw [upd_step (at' z) x i (by rw [LX.out]; exact hlt)] at hst
      generalize at' x i = p at *
      generalize at' y i = q at *
      rw [hz] at hst
      have hxo := bits_xor_u8 p q h1 h2
      have N1 := Lib.hid hst
      have N2 := Lib.hid (k2.far (c := w.heap.size) (k := i) (by omega) (.int .u8 ((p ^^^ q : Nat) : Int)))
      have N3 := Lib.hid (k3.far (c := w.heap.size) (k := i) (by omega) (.int .u8 ((p ^^^ q : Nat) : Int)))
      have N4 := Lib.hid (kb.setCell (p := ⟨w.heap.size, i, none⟩) (Nat.le_refl _) (.int .u8 ((p ^^^ q : Nat) : Int)))
      clear hst k1 k2 k3 kb hz e1
      go_wp2_with fail
      refine wp_still_tail 9 (by kernel_rfl) (by kernel_rfl) ?_
      simp only [List.take_succ_cons, List.take_zero, List.drop_succ_cons, List.drop_zero]
      repeat still_step
      refine wpStill_nil ?_
      go_wp2_with fail
      go_roundw
      case rel => exact ⟨i + 1, by omega, by go_num, N1.out, N2.out, N3.out, N4.out.drew⟩
      case measure => simp [intOf]; omega
    · obtain rfl : i = 16 := by omega
      rw [HALL.out] at k1
      have T1 := Lib.hid k1
      have T2 := Lib.hid k3
      have T3 := Lib.hid kb
      clear k1 k2 k3 kb
      go_wp2_with (refine wpList_loadB (l := z) (o := ⟨some 19, _, _, _, _, _⟩) rfl 365 (.tmp 2) rfl w.heap.size rfl (t := 365) ?_ Tryz.underlying365 (by rw [LZ.out]; exact sz16) ?_
                   · exact T1.out
                   refine wpList_storeB (l := z16) (o := ⟨none, .store _ (.tmp 4) (.tmp 19), _, _, _, _⟩) rfl 365 (.tmp 4) (.tmp 19) rfl (w.heap.size + 1 + 1) rfl z rfl (t := 365) ?_ (by rw [LZ.out]; exact sz16) (by rw [LZ.out]; rfl) ?_
                   · exact T2.out)
      refine bodyPost_ret (results_bts Tryz.results281 _ _ _ rfl (T2.out.row z) Tryz.underlying365 (by rw [LZ.out]; exact sz16)) rfl ?_
      exact ⟨rfl, Below.row T3.out (by omega) _⟩

def lenV : Value → Nat
  | .slice _ n _ => n
  | _ => 0
theorem zeros_succ (k : Nat) : zeros (k + 1) = zeros k ++ [0] := List.replicate_succ'
set_option maxRecDepth 100000 in
set_option maxHeartbeats 2000000 in
theorem full_any (A : Option Addr) (n c : Nat) (l : List Nat) (w : World) (hin : IsB w A n c l) (hn : n ≤ 70368744177664) :
    Calls Tryz.prog 329 #[.slice A n c] w fun e w' => ∃ v, e = .returned v ∧ OwB w' w.heap.size v (full l) ∧ Below w.heap.size w w' := by
  obtain ⟨i0, hi0, hz0, hz1, hz2⟩ := info_parts infoU8
  have hl := hin.len
  obtain ⟨K, hK⟩ : ∃ K, K = (16 - n % 16) % 16 := ⟨_, rfl⟩
  have hfull : full l = l ++ zeros K := by unfold full; rw [hl, hK]
  have hK16 : K < 16 := by omega
  have hKm : (n + K) % 16 = 0 := by omega
  have hKn : ∀ k, k < K → (n + k) % 16 ≠ 0 := fun k hk => by omega
  have hcp := copy_any A n c l w hin (by omega)
  have HCP := Lib.hid hcp
  have HL := Lib.hid hl
  have HF := Lib.hid hfull
  have HKM := Lib.hid hKm
  have HKN := Lib.hid hKn
  have HBY := Lib.hid hin.2
  clear hcp hin hl hfull hKm hKn hK
  go_enter Tryz.func329, Tryz.ntmps329
  go_wp2_with fail
  refine HCP.out.mono ?_
  rintro e w1 ⟨rfl, hbk, hb1⟩
  have V0 : Hid (OwB w1 w.heap.size (.slice (some ⟨w.heap.size, 0, none⟩) n (n + 3)) (l ++ zeros 0)) := Lib.hid (by
    have := OwB.ofBk (l := l) hbk (Nat.le_refl _) HL.out (show n ≤ n + 3 by omega) (by rw [List.length_append, HL.out]; rfl) (by omega) (by rw [List.take_append_of_le_length (by rw [HL.out]; exact Nat.le_refl _), List.take_of_length_le (by rw [HL.out]; exact Nat.le_refl _)]) HBY.out
    simpa [zeros] using this)
  have V1 := Lib.hid hb1
  clear hbk hb1 HCP
  go_wp2_with fail
  go_loopw [3] (fun v wr => ∃ k : Nat, k ≤ K ∧ lenV v = n + k ∧ OwB wr w.heap.size v (l ++ zeros k) ∧ Below w.heap.size w wr) (fun v _ => n + 16 - lenV v)
  case atStart => exact ⟨0, Nat.zero_le _, rfl, V0.out, V1.out⟩
  case round =>
    obtain ⟨k, hk, hlv, ho, hb⟩ := hrel
    clear V0 V1
    obtain ⟨A1, c1, hv, _, _⟩ := ho.shape
    have hlen : (l ++ zeros k).length = n + k := by rw [List.length_append, HL.out, zeros_len]
    rw [hlen] at hv
    subst hv
    clear hlv
    by_cases hlt : k < K
    · have hm : (((n : Int) + (k : Int)) % 16 != 0) = true := by have := HKN.out k hlt; simp; omega
      have hbd : (n : Int) + (k : Int) ≤ 70368744177680 := by omega
      have HO := Lib.hid ho
      have HB := Lib.hid hb
      have HLE := Lib.hid hlen
      have HLT := Lib.hid hlt
      clear ho hb hlen
      go_wp2_with (refine wpList_appB _ rfl (.tmp 10) (.tmp 11) rfl Tryz.underlying22 hi0 hz0 hz1 hz2 rfl (HO.out.alloc _) rfl (isB_one _ 0 (by decide)) rfl (by rw [HLE.out]; omega) (by have := HB.out.size; simp; omega) ?_; intro v1 w2 hown2 hb2 hg2 hat2; rw [List.append_assoc, ← zeros_succ] at hown2)
      obtain ⟨A2, c2, hv2, _, _⟩ := hown2.shape
      have hlen2 : (l ++ zeros (k + 1)).length = n + (k + 1) := by rw [List.length_append, HL.out, zeros_len]
      rw [hlen2] at hv2
      have hlv2 : lenV v1 = n + (k + 1) := by rw [hv2]; rfl
      have hb3 : Below w.heap.size w w2 := (HB.out.alloc HB.out.size _).trans hb2
      have hlk := HLT.out
      exact ⟨⟨k + 1, by omega, hlv2, hown2, hb3⟩, by rw [hlv2]; show n + 16 - (n + (k + 1)) < n + 16 - (n + k); omega⟩
    · obtain rfl : k = K := by omega
      have hm : (((n : Int) + (k : Int)) % 16 != 0) = false := by have := HKM.out; simp; omega
      have hbd : (n : Int) + (k : Int) ≤ 70368744177680 := by omega
      rw [← HF.out] at ho
      have HO := Lib.hid ho
      have HB := Lib.hid hb
      clear ho hb hlen
      go_wp2_with fail
      go_ret
      exact ⟨_, rfl, HO.out, HB.out⟩
end Go.Proofs.YtakgebbeknfplaaGreat
