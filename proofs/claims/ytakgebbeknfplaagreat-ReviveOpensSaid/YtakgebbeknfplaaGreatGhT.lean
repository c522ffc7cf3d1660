/-
  WALKS: (element).times.
-/
import Derived.Test.YtakgebbeknfplaaGreatGhA
import Derived.BigRegion
namespace Go.Proofs.YtakgebbeknfplaaGreat
open Go.RowKit
set_option linter.unusedVariables false

/-- a block of two words -/
def Ek (w : World) (g h l : Nat) : Prop := w.heap[g]? = some (.cells (e2 h l) 420 (0, 0))
section
variable {w w' : World} {g h l : Nat}
theorem Ek.c0 (k : Ek w g h l) : w.cell? ⟨g, 0, none⟩ = some (.int .u64 (h : Int)) := by rw [cell_of_row w g 0 _ _ (0, 0) k]; rfl
theorem Ek.c1 (k : Ek w g h l) : w.cell? ⟨g, 1, none⟩ = some (.int .u64 (l : Int)) := by rw [cell_of_row w g 1 _ _ (0, 0) k]; rfl
theorem Ek.free (k : Ek w g h l) (j : Nat) : w.frozen? ⟨g, j, none⟩ = false := frozen_of_row w g j _ _ k
theorem Ek.s0 (k : Ek w g h l) (x : Nat) : Ek (w.setCell ⟨g, 0, none⟩ (.int .u64 (x : Int))) g x l := heap_setCell_same w g 0 _ _ (.int .u64 (x : Int)) k
theorem Ek.s1 (k : Ek w g h l) (x : Nat) : Ek (w.setCell ⟨g, 1, none⟩ (.int .u64 (x : Int))) g h x := heap_setCell_same w g 1 _ _ (.int .u64 (x : Int)) k
theorem Ek.far (k : Ek w g h l) {c j : Nat} (hne : g ≠ c) (u : Value) : Ek (w.setCell ⟨c, j, none⟩ u) g h l := (Below.heap_setCell w ⟨c, j, none⟩ u g hne).trans k
theorem Ek.lt (k : Ek w g h l) : g < w.heap.size := lt_of_block k
theorem Ek.alloc (k : Ek w g h l) (o : Obj) : Ek (w.alloc o) g h l := (Below.heap_alloc w o g k.lt).trans k
theorem Ek.drew (k : Ek w g h l) : Ek w.drew g h l := k
theorem Ek.below {B : Nat} (k : Ek w g h l) (hb : Below B w w') (hB : g < B) : Ek w' g h l := (hb.block g hB).trans k
theorem Ek.ab (k : Ek w g h l) (hb : Below w.heap.size w w') : Ek w' g h l := k.below hb k.lt
end
theorem Ek.new (w : World) (h l : Nat) : Ek (w.alloc (.cells (e2 h l) 420)) w.heap.size h l := heap_alloc_new w _

/-- in the round -/
structure TmSt (B : Nat) (w0 w : World) (xh xl yh yl zh zl : Nat) : Prop where
  xb : Ek w B xh xl
  yb : Ek w (B + 1) yh yl
  rb : Ek w (B + 1 + 1) 0 0
  zb : Ek w (B + 1 + 1 + 1) zh zl
  below : Below B w0 w
def TmRel (B : Nat) (w0 : World) (xh xl yh yl : Nat) (i : Nat) (w : World) : Prop :=
  ∃ a b c d : Nat, a < 18446744073709551616 ∧ b < 18446744073709551616 ∧ c < 18446744073709551616 ∧ d < 18446744073709551616 ∧
    N2 a b = pw i (N2 yh yl) ∧ N2 c d = mid (N2 xh xl) (N2 yh yl) i ∧ TmSt B w0 w xh xl a b c d
theorem and_one (m : Nat) (hm : m < 18446744073709551616) : bits .and .u64 (m : Int) 1 = ((m % 2 : Nat) : Int) := by
  show IntKind.u64.wrap ((BitVec.ofInt 64 (m : Int) &&& BitVec.ofInt 64 1).toNat : Int) = _
  rw [BitVec.toNat_and, BitVec.ofInt_natCast, BitVec.toNat_ofNat, Nat.mod_eq_of_lt (by omega)]
  have e : (BitVec.ofInt 64 1).toNat = 1 := rfl
  rw [e, Nat.and_one_is_mod]
  exact wrap_u64' (n := 2) (by decide) _ (by omega) (by omega)
theorem xor_u64 (a b : Nat) (ha : a < 18446744073709551616) (hb : b < 18446744073709551616) : bits .xor .u64 (a : Int) (b : Int) = ((a ^^^ b : Nat) : Int) := by
  have h : a ^^^ b < 2 ^ 64 := Nat.xor_lt_two_pow ha hb
  show IntKind.u64.wrap ((BitVec.ofInt 64 (a : Int) ^^^ BitVec.ofInt 64 (b : Int)).toNat : Int) = _
  rw [BitVec.toNat_xor, BitVec.ofInt_natCast, BitVec.ofInt_natCast, BitVec.toNat_ofNat, BitVec.toNat_ofNat, Nat.mod_eq_of_lt (by omega), Nat.mod_eq_of_lt (by omega)]
  exact wrap_u64' h _ (Int.natCast_nonneg _) (Int.le_refl _)

theorem bit_test (m s : Nat) (hm : m < 18446744073709551616) : (bits .and .u64 ((m : Int) / 2 ^ s) 1 != 0) = m.testBit s := by
  have e : (m : Int) / 2 ^ s = ((m / 2 ^ s : Nat) : Int) := by simp
  have hl : m / 2 ^ s ≤ m := Nat.div_le_self _ _
  rw [e, and_one _ (by omega), Nat.testBit, Nat.shiftRight_eq_div_pow, Nat.one_and_eq_mod_two]
  rcases Nat.mod_two_eq_zero_or_one (m / 2 ^ s) with h | h <;> rw [h] <;> rfl
theorem odd_test (m : Nat) (hm : m < 18446744073709551616) : (bits .and .u64 (m : Int) 1 != 0) = decide (m % 2 = 1) := by
  rw [and_one _ hm]
  rcases Nat.mod_two_eq_zero_or_one m with h | h <;> rw [h] <;> rfl
theorem low_word (a b : Nat) (ha : a < 18446744073709551616) (hb : b < 18446744073709551616) : bits .or .u64 ((b / 2 : Nat) : Int) (IntKind.u64.wrap ((a : Int) * 9223372036854775808)) = ((b / 2 + a % 2 * 2 ^ 63 : Nat) : Int) := by
  have e : IntKind.u64.wrap ((a : Int) * 9223372036854775808) = ((a % 2 * 2 ^ 63 : Nat) : Int) := by
    show ((a : Int) * 9223372036854775808) % 18446744073709551616 = _
    omega
  rw [e, or_u64 _ _ (by omega) (by omega)]
  have := Nat.shiftLeft_add_eq_or_of_lt (a := a % 2) (b := b / 2) (i := 63) (by omega)
  rw [Nat.shiftLeft_eq] at this
  rw [Nat.or_comm, ← this, Nat.add_comm]
theorem gW_eq : gW = 16212958658533785600 := by decide +kernel
theorem high_word (a : Nat) (ha : a < 18446744073709551616) : bits .xor .u64 ((a / 2 : Nat) : Int) 16212958658533785600 = ((a / 2 ^^^ gW : Nat) : Int) := by
  have := xor_u64 (a / 2) gW (by omega) (by rw [gW_eq]; decide)
  rw [← this, gW_eq]
  rfl
theorem TmSt.start (w : World) (xh xl yh yl : Nat) : TmSt w.heap.size w ((((w.alloc (.cells (e2 xh xl) 420)).alloc (.cells (e2 yh yl) 420)).alloc (.cells (e2 0 0) 420)).alloc (.cells (e2 0 0) 420)) xh xl yh yl 0 0 := by
  have nw : ∀ (W : World) (h l n : Nat), n = W.heap.size → Ek (W.alloc (.cells (e2 h l) 420)) n h l := fun W h l n e => by rw [e]; exact Ek.new W h l
  exact ⟨(((Ek.new w xh xl).alloc _).alloc _).alloc _, ((nw _ yh yl _ (by simp)).alloc _).alloc _, (nw _ 0 0 _ (by simp)).alloc _, nw _ 0 0 _ (by simp),
    ((((Below.refl _ _).alloc (Nat.le_refl _) _).alloc (Nat.le_of_lt (by simp)) _).alloc (by simp; omega) _).alloc (by simp; omega) _⟩
section
variable {B xh xl a b c d : Nat} {w0 w : World}
theorem TmSt.drew (h : TmSt B w0 w xh xl a b c d) : TmSt B w0 w.drew xh xl a b c d := ⟨h.xb, h.yb, h.rb, h.zb, h.below.drew⟩
theorem TmSt.y0 (h : TmSt B w0 w xh xl a b c d) (x : Nat) : TmSt B w0 (w.setCell ⟨B + 1, 0, none⟩ (.int .u64 (x : Int))) xh xl x b c d :=
  ⟨h.xb.far (by omega) _, h.yb.s0 x, h.rb.far (by omega) _, h.zb.far (by omega) _, h.below.setCell (by show B ≤ B + 1; omega) _⟩
theorem TmSt.y1 (h : TmSt B w0 w xh xl a b c d) (x : Nat) : TmSt B w0 (w.setCell ⟨B + 1, 1, none⟩ (.int .u64 (x : Int))) xh xl a x c d :=
  ⟨h.xb.far (by omega) _, h.yb.s1 x, h.rb.far (by omega) _, h.zb.far (by omega) _, h.below.setCell (by show B ≤ B + 1; omega) _⟩
theorem TmSt.z0 (h : TmSt B w0 w xh xl a b c d) (x : Nat) : TmSt B w0 (w.setCell ⟨B + 1 + 1 + 1, 0, none⟩ (.int .u64 (x : Int))) xh xl a b x d :=
  ⟨h.xb.far (by omega) _, h.yb.far (by omega) _, h.rb.far (by omega) _, h.zb.s0 x, h.below.setCell (by show B ≤ B + 1 + 1 + 1; omega) _⟩
theorem TmSt.z1 (h : TmSt B w0 w xh xl a b c d) (x : Nat) : TmSt B w0 (w.setCell ⟨B + 1 + 1 + 1, 1, none⟩ (.int .u64 (x : Int))) xh xl a b c x :=
  ⟨h.xb.far (by omega) _, h.yb.far (by omega) _, h.rb.far (by omega) _, h.zb.s1 x, h.below.setCell (by show B ≤ B + 1 + 1 + 1; omega) _⟩
end
theorem xor_lt64 {a b : Nat} (ha : a < 18446744073709551616) (hb : b < 18446744073709551616) : a ^^^ b < 18446744073709551616 := Nat.xor_lt_two_pow (n := 64) ha hb
theorem tm_odd {a b i Y : Nat} (hb : b < 18446744073709551616) (h : N2 a b = pw i Y) (ho : b % 2 = 1) : N2 (a / 2 ^^^ gW) (b / 2 + a % 2 * 2 ^ 63) = pw (i + 1) Y := by
  have := N2_mulX a b hb
  rw [if_pos ho, h] at this
  exact this
theorem tm_even {a b i Y : Nat} (hb : b < 18446744073709551616) (h : N2 a b = pw i Y) (ho : ¬ b % 2 = 1) : N2 (a / 2) (b / 2 + a % 2 * 2 ^ 63) = pw (i + 1) Y := by
  have := N2_mulX a b hb
  rw [if_neg ho, h, Nat.xor_zero] at this
  exact this
theorem tm_in {a b c d i X Y : Nat} (hb : b < 18446744073709551616) (hd : d < 18446744073709551616) (h : N2 a b = pw i Y) (hz : N2 c d = mid X Y i) (hx : bitX X i = true) : N2 (c ^^^ a) (d ^^^ b) = mid X Y (i + 1) := by
  rw [N2_xor hd hb, h, hz, mid_step, hx]
  rfl
theorem tm_out {c d i X Y : Nat} (hz : N2 c d = mid X Y i) (hx : bitX X i = false) : N2 c d = mid X Y (i + 1) := by
  rw [hz, mid_step, hx]
  exact (Nat.xor_zero _).symm
set_option maxRecDepth 100000 in
set_option maxHeartbeats 2000000 in
theorem times2_any (xh xl yh yl : Nat) (h1 : xh < 18446744073709551616) (h2 : xl < 18446744073709551616) (h3 : yh < 18446744073709551616) (h4 : yl < 18446744073709551616) (w : World) :
    Calls Tryz.prog 313 #[.agg #[.int .u64 (xh : Int), .int .u64 (xl : Int)], .agg #[.int .u64 (yh : Int), .int .u64 (yl : Int)]] w fun e w' => e = .returned (.agg (el (hmul (N2 xh xl) (N2 yh yl)))) ∧ Below w.heap.size w w' := by
  have ST := Lib.hid (TmSt.start w xh xl yh yl)
  go_enter Tryz.func313, Tryz.ntmps313
  go_wp2_with fail
  go_loopw [6, 7, 8, 10] (fun _ _ _ j wr => ∃ i : Nat, i ≤ 128 ∧ j = .int .i64 i ∧ TmRel w.heap.size w xh xl yh yl i wr) (fun _ _ _ j _ => 128 - (intOf j).toNat)
  case atStart => exact ⟨0, by omega, rfl, yh, yl, 0, 0, h3, h4, by decide, by decide, rfl, rfl, ST.out⟩
  case round =>
    obtain ⟨i, hi, rfl, a, b, c, d, ha, hb, hc, hd, hy, hz, hs⟩ := hrel
    by_cases hlt : i < 128
    · have hii : (i : Int) < 128 := by omega
      have x0 := hs.xb.c0
      have x1 := hs.xb.c1
      have y0 := hs.yb.c0
      have y1 := hs.yb.c1
      have z0 := hs.zb.c0
      have z1 := hs.zb.c1
      have fy0 := hs.yb.free 0
      have fy1 := hs.yb.free 1
      have fz0 := hs.zb.free 0
      have fz1 := hs.zb.free 1
      have HS := Lib.hid hs
      have HY := Lib.hid hy
      have HZ := Lib.hid hz
      clear hs hy hz ST
      have q1 : (a : Int) / 2 = ((a / 2 : Nat) : Int) := by omega
      have q2 : (b : Int) / 2 = ((b / 2 : Nat) : Int) := by omega
      have q3 := low_word a b ha hb
      have q4 := high_word a ha
      have q5 := odd_test b hb
      have q6 := xor_u64 c a hc ha
      have q7 := xor_u64 d b hd hb
      obtain ⟨a2, ea⟩ : ∃ n, n = a / 2 := ⟨_, rfl⟩
      obtain ⟨b2, eb⟩ : ∃ n, n = b / 2 := ⟨_, rfl⟩
      obtain ⟨lw, elw⟩ : ∃ n, n = b / 2 + a % 2 * 2 ^ 63 := ⟨_, rfl⟩
      obtain ⟨hw, ehw⟩ : ∃ n, n = a / 2 ^^^ gW := ⟨_, rfl⟩
      obtain ⟨zc, ezc⟩ : ∃ n, n = c ^^^ a := ⟨_, rfl⟩
      obtain ⟨zd, ezd⟩ : ∃ n, n = d ^^^ b := ⟨_, rfl⟩
      rw [← elw, ← eb] at q3
      rw [← ehw, ← ea] at q4
      rw [← ea] at q1
      rw [← eb] at q2
      rw [← ezc] at q6
      rw [← ezd] at q7
      have EA := Lib.hid ea
      have EB := Lib.hid eb
      have ELW := Lib.hid elw
      have EHW := Lib.hid ehw
      have EZC := Lib.hid ezc
      have EZD := Lib.hid ezd
      clear ea eb elw ehw ezc ezd
      by_cases h63 : i < 64
      · have hd63 : decide (63 < (i : Int)) = false := by simp; omega
        have hm : (i : Int) % 64 = (i : Int) := by omega
        have hbt := bit_test xh (63 - i) h1
        by_cases hodd : b % 2 = 1
        · rw [decide_eq_true hodd] at q5
          have HO := Lib.hid hodd
          clear hodd
          cases hbv : xh.testBit (63 - i)
          · rw [hbv] at hbt
            have HB := Lib.hid hbv
            clear hbv
            go_wp2_with fail
            go_roundw
            case rel => exact ⟨i + 1, by omega, by go_num, hw, lw, c, d, by rw [EHW.out]; exact xor_lt64 (by omega) (by rw [gW_eq]; decide), by rw [ELW.out]; omega, hc, hd, by rw [EHW.out, ELW.out]; exact tm_odd hb HY.out HO.out, tm_out HZ.out (by rw [N2_hi h2 (by omega)]; exact HB.out), (((HS.out).y0 a2).y1 lw).y0 hw⟩
            case measure => simp [intOf]; omega
          · rw [hbv] at hbt
            have HB := Lib.hid hbv
            clear hbv
            go_wp2_with fail
            go_region
            go_wp2_with fail
            go_roundw
            case rel => exact ⟨i + 1, by omega, by go_num, hw, lw, zc, zd, by rw [EHW.out]; exact xor_lt64 (by omega) (by rw [gW_eq]; decide), by rw [ELW.out]; omega, by rw [EZC.out]; exact xor_lt64 hc ha, by rw [EZD.out]; exact xor_lt64 hd hb, by rw [EHW.out, ELW.out]; exact tm_odd hb HY.out HO.out, by rw [EZC.out, EZD.out]; exact tm_in hb hd HY.out HZ.out (by rw [N2_hi h2 (by omega)]; exact HB.out), (((((HS.out.z0 zc).z1 zd).y0 a2).y1 lw).y0 hw).drew⟩
            case measure => simp [intOf]; omega
        · rw [decide_eq_false hodd] at q5
          have HO := Lib.hid hodd
          clear hodd
          cases hbv : xh.testBit (63 - i)
          · rw [hbv] at hbt
            have HB := Lib.hid hbv
            clear hbv
            go_wp2_with fail
            go_roundw
            case rel => exact ⟨i + 1, by omega, by go_num, a2, lw, c, d, by rw [EA.out]; omega, by rw [ELW.out]; omega, hc, hd, by rw [EA.out, ELW.out]; exact tm_even hb HY.out HO.out, tm_out HZ.out (by rw [N2_hi h2 (by omega)]; exact HB.out), ((HS.out).y0 a2).y1 lw⟩
            case measure => simp [intOf]; omega
          · rw [hbv] at hbt
            have HB := Lib.hid hbv
            clear hbv
            go_wp2_with fail
            go_region
            go_wp2_with fail
            go_roundw
            case rel => exact ⟨i + 1, by omega, by go_num, a2, lw, zc, zd, by rw [EA.out]; omega, by rw [ELW.out]; omega, by rw [EZC.out]; exact xor_lt64 hc ha, by rw [EZD.out]; exact xor_lt64 hd hb, by rw [EA.out, ELW.out]; exact tm_even hb HY.out HO.out, by rw [EZC.out, EZD.out]; exact tm_in hb hd HY.out HZ.out (by rw [N2_hi h2 (by omega)]; exact HB.out), ((((HS.out.z0 zc).z1 zd).y0 a2).y1 lw).drew⟩
            case measure => simp [intOf]; omega
      · have hd63 : decide (63 < (i : Int)) = true := by simp; omega
        obtain ⟨m, hmm⟩ : ∃ m, m = 127 - i := ⟨_, rfl⟩
        have hm : (i : Int) % 64 = 63 - (m : Int) := by omega
        have hm1 : (63 - (63 - (m : Int))) = (m : Int) := by omega
        have hm2 : IntKind.i64.wrap (63 - (63 - (m : Int))) = (m : Int) := by rw [hm1]; exact IntWalk.i64_in _ (by omega)
        have hbt := bit_test xl m h2
        have HM := Lib.hid hmm
        clear hmm
        by_cases hodd : b % 2 = 1
        · rw [decide_eq_true hodd] at q5
          have HO := Lib.hid hodd
          clear hodd
          cases hbv : xl.testBit m
          · rw [hbv] at hbt
            rw [HM.out] at hbv
            have HB := Lib.hid hbv
            clear hbv
            go_wp2_with fail
            go_roundw
            case rel => exact ⟨i + 1, by omega, by go_num, hw, lw, c, d, by rw [EHW.out]; exact xor_lt64 (by omega) (by rw [gW_eq]; decide), by rw [ELW.out]; omega, hc, hd, by rw [EHW.out, ELW.out]; exact tm_odd hb HY.out HO.out, tm_out HZ.out (by rw [N2_lo h2 (by omega) hlt]; exact HB.out), (((HS.out).y0 a2).y1 lw).y0 hw⟩
            case measure => simp [intOf]; omega
          · rw [hbv] at hbt
            rw [HM.out] at hbv
            have HB := Lib.hid hbv
            clear hbv
            go_wp2_with fail
            go_region
            go_wp2_with fail
            go_roundw
            case rel => exact ⟨i + 1, by omega, by go_num, hw, lw, zc, zd, by rw [EHW.out]; exact xor_lt64 (by omega) (by rw [gW_eq]; decide), by rw [ELW.out]; omega, by rw [EZC.out]; exact xor_lt64 hc ha, by rw [EZD.out]; exact xor_lt64 hd hb, by rw [EHW.out, ELW.out]; exact tm_odd hb HY.out HO.out, by rw [EZC.out, EZD.out]; exact tm_in hb hd HY.out HZ.out (by rw [N2_lo h2 (by omega) hlt]; exact HB.out), (((((HS.out.z0 zc).z1 zd).y0 a2).y1 lw).y0 hw).drew⟩
            case measure => simp [intOf]; omega
        · rw [decide_eq_false hodd] at q5
          have HO := Lib.hid hodd
          clear hodd
          cases hbv : xl.testBit m
          · rw [hbv] at hbt
            rw [HM.out] at hbv
            have HB := Lib.hid hbv
            clear hbv
            go_wp2_with fail
            go_roundw
            case rel => exact ⟨i + 1, by omega, by go_num, a2, lw, c, d, by rw [EA.out]; omega, by rw [ELW.out]; omega, hc, hd, by rw [EA.out, ELW.out]; exact tm_even hb HY.out HO.out, tm_out HZ.out (by rw [N2_lo h2 (by omega) hlt]; exact HB.out), ((HS.out).y0 a2).y1 lw⟩
            case measure => simp [intOf]; omega
          · rw [hbv] at hbt
            rw [HM.out] at hbv
            have HB := Lib.hid hbv
            clear hbv
            go_wp2_with fail
            go_region
            go_wp2_with fail
            go_roundw
            case rel => exact ⟨i + 1, by omega, by go_num, a2, lw, zc, zd, by rw [EA.out]; omega, by rw [ELW.out]; omega, by rw [EZC.out]; exact xor_lt64 hc ha, by rw [EZD.out]; exact xor_lt64 hd hb, by rw [EA.out, ELW.out]; exact tm_even hb HY.out HO.out, by rw [EZC.out, EZD.out]; exact tm_in hb hd HY.out HZ.out (by rw [N2_lo h2 (by omega) hlt]; exact HB.out), ((((HS.out.z0 zc).z1 zd).y0 a2).y1 lw).drew⟩
            case measure => simp [intOf]; omega
    · obtain rfl : i = 128 := by omega
      have z0 := hs.zb.c0
      have z1 := hs.zb.c1
      have r0 := hs.rb.c0
      have r1 := hs.rb.c1
      have f0 := hs.rb.free 0
      have f1 := hs.rb.free 1
      have p1 := Lib.hid ((hs.rb.s0 c).s1 d).c0
      have p2 := Lib.hid ((hs.rb.s0 c).s1 d).c1
      have HL := Lib.hid (hs.below)
      have HE : Hid (el (hmul (N2 xh xl) (N2 yh yl)) = e2 c d) := Lib.hid (by
        have : hmul (N2 xh xl) (N2 yh yl) = N2 c d := hz.symm
        rw [this, el_N2 hd])
      clear hs hy hz ST
      go_wp2_with fail
      exact bodyPost_ret (v := .agg #[.int .u64 (c : Int), .int .u64 (d : Int)]) (by simp [results, Tryz.results313, go_sem, p1.out, p2.out]) rfl ⟨by rw [HE.out]; rfl, (HL.out.setCell (by show w.heap.size ≤ w.heap.size + 1 + 1; omega) _).setCell (by show w.heap.size ≤ w.heap.size + 1 + 1; omega) _⟩
theorem times_any (X Y : Nat) (hX : X < 2 ^ 128) (hY : Y < 2 ^ 128) (w : World) :
    Calls Tryz.prog 313 #[.agg (el X), .agg (el Y)] w fun e w' => e = .returned (.agg (el (hmul X Y))) ∧ Below w.heap.size w w' := by
  have e1 : N2 (X / 18446744073709551616) (X % 18446744073709551616) = X := by unfold N2; omega
  have e2 : N2 (Y / 18446744073709551616) (Y % 18446744073709551616) = Y := by unfold N2; omega
  have := times2_any (X / 18446744073709551616) (X % 18446744073709551616) (Y / 18446744073709551616) (Y % 18446744073709551616) (by omega) (Nat.mod_lt _ (by decide)) (by omega) (Nat.mod_lt _ (by decide)) w
  rw [e1, e2] at this
  exact this
end Go.Proofs.YtakgebbeknfplaaGreat
