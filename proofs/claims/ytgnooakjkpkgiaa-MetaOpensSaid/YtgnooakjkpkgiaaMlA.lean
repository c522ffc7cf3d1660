/-
  META PAGES: MetaEncodes, MetaDecodes, MetaOnly: the walks.
-/
import Derived.Test.YtgnooakjkpkgiaaMtK
namespace Go.Proofs.Ytgnooakjkpkgiaa
open Go.RowKit
set_option linter.unusedVariables false

theorem array7' {α : Type} {cs : Array α} (h : cs.size = 7) : ∃ c0 c1 c2 c3 c4 c5 c6, cs = #[c0, c1, c2, c3, c4, c5, c6] := by
  obtain ⟨l⟩ := cs
  match l, h with
  | [c0, c1, c2, c3, c4, c5, c6], _ => exact ⟨c0, c1, c2, c3, c4, c5, c6, rfl⟩
set_option maxRecDepth 100000 in
theorem open_meta {W : World} {r : Reach} {base : Nat} {v : Value} (hk : Value.okWide Try.prog W r base 95 v) : ∃ m : Mp, v = .agg (mpv m) ∧ m.Ok := by
  obtain ⟨cs, rfl, hs, hc⟩ := okWide_ints (ts := [25, 24, 25, 23, 5, 23, 24]) Try.underlying95 (by kernel_rfl) hk
  have h7 : Try.prog.cellsOf 95 = 7 := by kernel_rfl
  rw [h7] at hs
  obtain ⟨c0, c1, c2, c3, c4, c5, c6, rfl⟩ := array7' hs
  obtain ⟨z0, rfl, a0, b0⟩ := hc 0 _ .u64 rfl Try.underlying25 _ rfl
  obtain ⟨z1, rfl, a1, b1⟩ := hc 1 _ .u32 rfl Try.underlying24 _ rfl
  obtain ⟨z2, rfl, a2, b2⟩ := hc 2 _ .u64 rfl Try.underlying25 _ rfl
  obtain ⟨z3, rfl, a3, b3⟩ := hc 3 _ .u16 rfl Try.underlying23 _ rfl
  obtain ⟨z4, rfl, a4, b4⟩ := hc 4 _ .u8 rfl Try.underlying5 _ rfl
  obtain ⟨z5, rfl, a5, b5⟩ := hc 5 _ .u16 rfl Try.underlying23 _ rfl
  obtain ⟨z6, rfl, a6, b6⟩ := hc 6 _ .u32 rfl Try.underlying24 _ rfl
  have e8 : IntKind.u8.min = 0 ∧ IntKind.u8.max = 255 := ⟨rfl, rfl⟩
  have e16 : IntKind.u16.min = 0 ∧ IntKind.u16.max = 65535 := ⟨rfl, rfl⟩
  have e32 : IntKind.u32.min = 0 ∧ IntKind.u32.max = 4294967295 := ⟨rfl, rfl⟩
  have e64 : IntKind.u64.min = 0 ∧ IntKind.u64.max = 18446744073709551615 := ⟨rfl, rfl⟩
  obtain ⟨n0, rfl⟩ : ∃ n : Nat, z0 = (n : Int) := ⟨z0.toNat, by omega⟩
  obtain ⟨n1, rfl⟩ : ∃ n : Nat, z1 = (n : Int) := ⟨z1.toNat, by omega⟩
  obtain ⟨n2, rfl⟩ : ∃ n : Nat, z2 = (n : Int) := ⟨z2.toNat, by omega⟩
  obtain ⟨n3, rfl⟩ : ∃ n : Nat, z3 = (n : Int) := ⟨z3.toNat, by omega⟩
  obtain ⟨n4, rfl⟩ : ∃ n : Nat, z4 = (n : Int) := ⟨z4.toNat, by omega⟩
  obtain ⟨n5, rfl⟩ : ∃ n : Nat, z5 = (n : Int) := ⟨z5.toNat, by omega⟩
  obtain ⟨n6, rfl⟩ : ∃ n : Nat, z6 = (n : Int) := ⟨z6.toNat, by omega⟩
  exact ⟨⟨n0, n1, n2, n3, n4, n5, n6⟩, rfl, by show n0 < 18446744073709551616; omega, by show n1 < 4294967296; omega, by show n2 < 18446744073709551616; omega, by show n3 < 65536; omega, by show n4 < 256; omega, by show n5 < 65536; omega, by show n6 < 4294967296; omega⟩
theorem eq_mp0 (W : World) : (Op.equalIn 10000 95 (.agg #[.int .u64 0, .int .u32 0, .int .u64 0, .int .u16 0, .int .u8 0, .int .u16 0, .int .u32 0]) (.agg #[.int .u64 0, .int .u32 0, .int .u64 0, .int .u16 0, .int .u8 0, .int .u16 0, .int .u32 0])).run Try.prog W = .ok true W := by
  have := eq_mp mp0 mp0 W
  rw [decide_eq_true rfl] at this
  exact this
theorem mpv_lit (m : Mp) : mpv m = #[.int .u64 (m.cm : Int), .int .u32 (m.pg : Int), .int .u64 (m.rc : Int), .int .u16 (m.rg : Int), .int .u8 (m.lv : Int), .int .u16 (m.gn : Int), .int .u32 (m.tn : Int)] := rfl
set_option maxRecDepth 100000 in
set_option maxHeartbeats 4000000 in
theorem mdecodes_any (A : Option Addr) (n c : Nat) (l : List Nat) (w : World) (hi : IsB w A n c l) :
    Calls Try.prog 10 #[.slice A n c] w fun e w' => e = .returned (.bool true) ∧ Below w.heap.size w w' := by
  have HK := Lib.hid known18_any
  have HI := Lib.hid hi
  by_cases hn : 4096 < n
  · have h1 : decide (4096 < (n : Int)) = true := by simp; omega
    have h2 : decide (4096 < n) = true := by simp; omega
    clear hi hn
    go_enter Try.func10, Try.ntmps10
    go_wp2_with fail
    refine (HK.out _).mono ?_
    rintro e w' ⟨rfl, hb⟩
    go_wp2_with fail
    go_ret
    exact ⟨rfl, hb⟩
  · have h1 : decide (4096 < (n : Int)) = false := by simp; omega
    have h2 : decide (4096 < n) = false := by simp; omega
    have HC := Lib.hid (copy_isB A n c l w hi (by omega))
    have HD := Lib.hid fun A n c W h => decode_any A n c l W h
    have HE := Lib.hid fun A n c W h => rdecode_any A n c l W h
    have HQ := Lib.hid fun A B c d W h1 h2 => same_yes A B n n c d l l W h1 h2 rfl
    have hq := fun W => eq_mp (decP l).m (decP l).m W
    unfold decV at HD HE
    rw [mpv_lit] at HD HE
    simp only [decide_true] at hq
    generalize decP l = D at *
    obtain ⟨⟨d0, d1, d2, d3, d4, d5, d6⟩, er, ps⟩ := D
    simp only at HD HE hq
    clear hi hn
    go_enter Try.func10, Try.ntmps10
    go_wp2_with fail
    refine HC.out.mono ?_
    rintro e w1 ⟨rfl, hv, hb⟩
    have I1 := Lib.hid hv
    have J1 := Lib.hid (HI.out.ab hb)
    have B1 := Lib.hid hb
    clear hv hb
    go_wp2_with fail
    refine (HD.out _ _ _ _ I1.out).mono ?_
    rintro e w2 ⟨rfl, hb⟩
    have I2 := Lib.hid (I1.out.ab hb)
    have J2 := Lib.hid (J1.out.ab hb)
    have B2 := Lib.hid (below_tr B1.out hb B1.out.size)
    clear hb
    go_wp2_with fail
    have ha2 : Below w2.heap.size w2 (w2.alloc (.cells (mpv ⟨d0, d1, d2, d3, d4, d5, d6⟩) 95)) := (Below.refl _ _).alloc (Nat.le_refl _) _
    have M2 := MpB.new w2 ⟨d0, d1, d2, d3, d4, d5, d6⟩
    refine (HE.out _ _ _ _ (J2.out.ab ha2)).mono ?_
    rintro e w3 ⟨rfl, hb⟩
    have I3 := Lib.hid ((I2.out.ab ha2).ab hb)
    have J3 := Lib.hid ((J2.out.ab ha2).ab hb)
    have M3 := Lib.hid (M2.ab hb)
    have B3 := Lib.hid (below_tr (below_tr B2.out ha2 B2.out.size) hb (below_tr B2.out ha2 B2.out.size).size)
    clear hb ha2 M2
    go_wp2_with fail
    have ha3 : Below w3.heap.size w3 (w3.alloc (.cells (mpv ⟨d0, d1, d2, d3, d4, d5, d6⟩) 95)) := (Below.refl _ _).alloc (Nat.le_refl _) _
    have M4 := M3.out.ab ha3
    have N4 := MpB.new w3 ⟨d0, d1, d2, d3, d4, d5, d6⟩
    have I4 := I3.out.ab ha3
    have J4 := J3.out.ab ha3
    obtain ⟨x0, x1, x2, x3, x4, x5, x6⟩ := M4.cells
    obtain ⟨y0, y1, y2, y3, y4, y5, y6⟩ := N4.cells
    simp only [mpv_lit] at x0 x1 x2 x3 x4 x5 x6 y0 y1 y2 y3 y4 y5 y6 I4 J4
    have IJ := Lib.hid (HQ.out _ _ _ _ _ I4 J4)
    have B4 := Lib.hid (below_tr B3.out ha3 B3.out.size)
    clear ha3 M4 N4 I4 J4
    refine IJ.out.mono ?_
    rintro e w5 ⟨rfl, rfl⟩
    go_wp2_with fail
    refine (HK.out _).mono ?_
    rintro e w6 ⟨rfl, hb⟩
    have B6 := Lib.hid (below_tr B4.out hb B4.out.size)
    clear hb
    go_wp2_with fail
    go_ret
    exact ⟨rfl, B6.out⟩
theorem mdecodes_walk (A : Option Addr) (n c : Nat) (z : List Int) (w : World) (h : IsRow .u8 w A n c z) (s : c * 1 ≤ 140737488351232) :
    Calls Try.prog 10 #[.slice A n c] w fun e w' => e = .returned (.bool true) ∧ Below w.heap.size w w' := by
  obtain ⟨l, rfl, bl⟩ := byt_of_row h
  exact mdecodes_any A n c l w ⟨h, bl⟩
set_option maxRecDepth 100000 in
set_option maxHeartbeats 4000000 in
theorem monly_any (A : Option Addr) (n c : Nat) (l : List Nat) (w : World) (hi : IsB w A n c l) :
    Calls Try.prog 14 #[.slice A n c] w fun e w' => e = .returned (.bool true) ∧ Below w.heap.size w w' := by
  have HK := Lib.hid known18_any
  have HI := Lib.hid hi
  by_cases hn : 4096 < n
  · have h1 : decide (4096 < (n : Int)) = true := by simp; omega
    have h2 : decide (4096 < n) = true := by simp; omega
    clear hi hn
    go_enter Try.func14, Try.ntmps14
    go_wp2_with fail
    refine (HK.out _).mono ?_
    rintro e w' ⟨rfl, hb⟩
    go_wp2_with fail
    go_ret
    exact ⟨rfl, hb⟩
  · have h1 : decide (4096 < (n : Int)) = false := by simp; omega
    have h2 : decide (4096 < n) = false := by simp; omega
    have HD := Lib.hid (decode_any A n c l w hi)
    by_cases he : (decP l).err = 0
    · obtain ⟨hl, hm, hr, hmb⟩ := decP_only hi.2 he
      have HE := Lib.hid fun W => encode_any (mpOf l) W (mpOf_ok hi.2 hl)
      unfold encP at HE
      rw [hr, cond_true, hmb] at HE
      unfold decV at HD
      rw [he, hm, mpv_lit] at HD
      have HMV : Hid (mpv (mpOf l) = mpv (mpOf l)) := Lib.hid rfl
      rw [mpv_lit] at HE
      have bl := Lib.hid hi.2
      generalize mpOf l = m at *
      generalize (decP l).pos = ps at *
      obtain ⟨d0, d1, d2, d3, d4, d5, d6⟩ := m
      simp only at HD HE
      clear hi hn hm hr hmb he hl
      go_enter Try.func14, Try.ntmps14
      go_wp2_with fail
      refine HD.out.mono ?_
      rintro e w1 ⟨rfl, hb⟩
      have J1 := Lib.hid (HI.out.ab hb)
      have B1 := Lib.hid hb
      clear hb
      go_wp2_with fail
      have ha : Below w1.heap.size w1 (w1.alloc (.cells (mpv ⟨d0, d1, d2, d3, d4, d5, d6⟩) 95)) := (Below.refl _ _).alloc (Nat.le_refl _) _
      refine (HE.out _).mono ?_
      rintro e w2 ⟨v, rfl, hv, hb⟩
      obtain ⟨A2, c2, rfl, _, _⟩ := hv.shape
      have hs1 := conv_str (W := w2) (hv.isB rfl) (Below.refl _ _)
      have J2 := (J1.out.ab ha).ab hb
      have hs2 := conv_str (W := w2) J2 (Below.refl _ _)
      have B2 := Lib.hid (below_tr (below_tr B1.out ha B1.out.size) hb (below_tr B1.out ha B1.out.size).size)
      clear hv hb ha J2
      go_wp2_with fail
      refine (HK.out _).mono ?_
      rintro e w3 ⟨rfl, hb⟩
      have B3 := Lib.hid (below_tr B2.out hb B2.out.size)
      clear hb
      go_wp2_with fail
      go_ret
      exact ⟨rfl, B3.out⟩
    · have hd : (decP l).m = mp0 ∧ (((decP l).err : Int) == 2) = ((n : Int) != 224) := by
        have hl := hi.len
        unfold decP at he ⊢
        by_cases h224 : l.length = 224
        · rw [if_pos h224] at he ⊢
          have hn2 : ((n : Int) != 224) = false := by simp; omega
          rw [hn2]
          by_cases h0 : (mpOf l).cm = 0
          · rw [if_pos h0]; exact ⟨rfl, rfl⟩
          · rw [if_neg h0] at he ⊢
            cases hr : rightB (mpOf l)
            · rw [cond_false]; exact ⟨rfl, rfl⟩
            · rw [hr, cond_true] at he
              rw [cond_true]
              cases hz : nzFrom l 195 29 with
              | none => rw [hz] at he; exact absurd rfl he
              | some i => exact ⟨rfl, rfl⟩
        · rw [if_neg h224]
          have hn2 : ((n : Int) != 224) = true := by simp; omega
          rw [hn2]
          exact ⟨rfl, rfl⟩
      obtain ⟨hm, h22⟩ := hd
      have hne : (((decP l).err : Int) != 0) = true := by simp [he]
      unfold decV at HD
      rw [hm] at HD
      have hq := eq_mp0
      have HV0 : Hid (mpv mp0 = #[.int .u64 0, .int .u32 0, .int .u64 0, .int .u16 0, .int .u8 0, .int .u16 0, .int .u32 0]) := Lib.hid rfl
      rw [HV0.out] at HD
      generalize (decP l).err = er at *
      generalize (decP l).pos = ps at *
      have hb2 : (((n : Int) != 224) = true ∧ ((er : Int) == 2) = true) ∨ (((n : Int) != 224) = false ∧ ((er : Int) == 2) = false) := by
        rw [h22]
        cases ((n : Int) != 224)
        · exact .inr ⟨rfl, rfl⟩
        · exact .inl ⟨rfl, rfl⟩
      clear hi hn hm he h22
      rcases hb2 with ⟨q1, q2⟩ | ⟨q1, q2⟩
      all_goals
        go_enter Try.func14, Try.ntmps14
        go_wp2_with fail
        refine HD.out.mono ?_
        rintro e w1 ⟨rfl, hb⟩
        have B1 := Lib.hid hb
        clear hb
        go_wp2_with fail
        refine (HK.out _).mono ?_
        rintro e w3 ⟨rfl, hb⟩
        have B3 := Lib.hid (below_tr (B1.out.alloc B1.out.size _) hb (B1.out.alloc B1.out.size _).size)
        clear hb
        go_wp2_with fail
        go_ret
        exact ⟨rfl, B3.out⟩
theorem monly_walk (A : Option Addr) (n c : Nat) (z : List Int) (w : World) (h : IsRow .u8 w A n c z) (s : c * 1 ≤ 140737488351232) :
    Calls Try.prog 14 #[.slice A n c] w fun e w' => e = .returned (.bool true) ∧ Below w.heap.size w w' := by
  obtain ⟨l, rfl, bl⟩ := byt_of_row h
  exact monly_any A n c l w ⟨h, bl⟩
end Go.Proofs.Ytgnooakjkpkgiaa
