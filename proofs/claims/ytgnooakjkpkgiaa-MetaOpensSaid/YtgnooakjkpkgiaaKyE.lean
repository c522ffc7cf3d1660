/-
  META PAGES: MetaOpens: the walk.
-/
import Derived.Test.YtgnooakjkpkgiaaMlA
import Derived.Test.YtgnooakjkpkgiaaKyB
import Derived.Test.YtgnooakjkpkgiaaKyC
namespace Go.Proofs.Ytgnooakjkpkgiaa
open Go.RowKit Go.ChangeShapes Go.WideShapes
set_option linter.unusedVariables false

set_option maxRecDepth 100000 in
set_option maxHeartbeats 4000000 in
theorem mopens_any (A : Option Addr) (n c : Nat) (ks : List KArg) (sl : Int) (bA : Option Addr) (bn bc : Nat) (b : List Nat) (w : World) (hk : KsB w A n c ks) (hi : IsB w bA bn bc b) :
    Calls Try.prog 11 #[.slice A n c, .int .i64 sl, .slice bA bn bc] w fun e w' => e = .returned (.bool true) ∧ Below w.heap.size w w' := by
  have HK := Lib.hid known18_any
  have HI := Lib.hid hi
  have HR := Lib.hid (rings_any A n c ks w hk)
  by_cases hn : 4096 < bn
  · have h1 : decide (4096 < (bn : Int)) = true := by simp; omega
    have h2 : decide (4096 < bn) = true := by simp; omega
    clear hi hn hk
    go_enter Try.func11, Try.ntmps11
    go_wp2_with fail
    refine HR.out.mono ?_
    rintro e w1 ⟨hb, rfl | ⟨g, m, g2, l, rfl, hT, hl⟩⟩
    all_goals
      have B1 := Lib.hid hb
      clear hb
      go_wp2_with fail
      refine (HK.out _).mono ?_
      rintro e w6 ⟨rfl, hb⟩
      have B6 := Lib.hid (below_tr B1.out hb B1.out.size)
      clear hb
      go_wp2_with fail
      go_ret
      exact ⟨rfl, B6.out⟩
  · have h1 : decide (4096 < (bn : Int)) = false := by simp; omega
    have h2 : decide (4096 < bn) = false := by simp; omega
    have HC := Lib.hid fun W h => copy_isB bA bn bc b W h (by omega)
    have HQ := Lib.hid fun A B c d W h1 h2 => same_yes A B bn bn c d b b W h1 h2 rfl
    clear hi hn hk
    go_enter Try.func11, Try.ntmps11
    go_wp2_with fail
    refine HR.out.mono ?_
    rintro e w1 ⟨hb, rfl | ⟨g, m, g2, l, rfl, ⟨hr, rv, rvs, hrk⟩, hl⟩⟩
    · have B1 := Lib.hid hb
      clear hb
      go_wp2_with fail
      refine (HK.out _).mono ?_
      rintro e w6 ⟨rfl, hb⟩
      have B6 := Lib.hid (below_tr B1.out hb B1.out.size)
      clear hb
      go_wp2_with fail
      go_ret
      exact ⟨rfl, B6.out⟩
    have HO := Lib.hid fun A n c W h1 h2 => mOpen_any w.heap.size g m sl l A n c b W h1 h2
    have HP := Lib.hid fun A n c W h1 h2 => rOpen_any w.heap.size g2 sl rv rvs l A n c b W h1 (by omega) h2
    have hq := fun W => eq_mp (mOpenP l sl b).m (mOpenP l sl b).m W
    unfold opnV at HO HP
    rw [mpv_lit] at HO HP
    simp only [decide_true] at hq
    generalize mOpenP l sl b = D at *
    obtain ⟨⟨d0, d1, d2, d3, d4, d5, d6⟩, er⟩ := D
    simp only at HO HP hq
    have B1 := Lib.hid hb
    have R1 := Lib.hid hr
    have K1 := Lib.hid hrk
    have J1 := Lib.hid (HI.out.below hb)
    clear hb hr hrk hl HR
    go_wp2_with fail
    refine (HC.out _ J1.out).mono ?_
    rintro e w2 ⟨rfl, hv, hb⟩
    have I2 := Lib.hid hv
    have J2 := Lib.hid (J1.out.ab hb)
    have R2 := Lib.hid (R1.out.ab hb)
    have K2 := Lib.hid (K1.out.ab hb)
    have B2 := Lib.hid (below_tr B1.out hb B1.out.size)
    clear hv hb R1 K1 J1 B1
    go_wp2_with fail
    refine (HO.out _ _ _ _ R2.out I2.out).mono ?_
    rintro e w3 ⟨rfl, hb⟩
    have I3 := Lib.hid (I2.out.ab hb)
    have J3 := Lib.hid (J2.out.ab hb)
    have K3 := Lib.hid (K2.out.ab hb)
    have B3 := Lib.hid (below_tr B2.out hb B2.out.size)
    clear hb R2 K2 J2 B2 I2
    go_wp2_with fail
    have ha3 : Below w3.heap.size w3 (w3.alloc (.cells (mpv ⟨d0, d1, d2, d3, d4, d5, d6⟩) 95)) := (Below.refl _ _).alloc (Nat.le_refl _) _
    have M3 := MpB.new w3 ⟨d0, d1, d2, d3, d4, d5, d6⟩
    refine (HP.out _ _ _ _ (K3.out.ab ha3) (J3.out.ab ha3)).mono ?_
    rintro e w4 ⟨rfl, hb⟩
    have I4 := Lib.hid ((I3.out.ab ha3).ab hb)
    have J4 := Lib.hid ((J3.out.ab ha3).ab hb)
    have M4 := Lib.hid (M3.ab hb)
    have B4 := Lib.hid (below_tr (below_tr B3.out ha3 B3.out.size) hb (below_tr B3.out ha3 B3.out.size).size)
    clear hb ha3 M3 I3 J3 K3 B3
    go_wp2_with fail
    have ha4 : Below w4.heap.size w4 (w4.alloc (.cells (mpv ⟨d0, d1, d2, d3, d4, d5, d6⟩) 95)) := (Below.refl _ _).alloc (Nat.le_refl _) _
    have M5 := M4.out.ab ha4
    have N5 := MpB.new w4 ⟨d0, d1, d2, d3, d4, d5, d6⟩
    have I5 := I4.out.ab ha4
    have J5 := J4.out.ab ha4
    obtain ⟨x0, x1, x2, x3, x4, x5, x6⟩ := M5.cells
    obtain ⟨y0, y1, y2, y3, y4, y5, y6⟩ := N5.cells
    simp only [mpv_lit] at x0 x1 x2 x3 x4 x5 x6 y0 y1 y2 y3 y4 y5 y6 I5 J5
    have IJ := Lib.hid (HQ.out _ _ _ _ _ I5 J5)
    have B5 := Lib.hid (below_tr B4.out ha4 B4.out.size)
    clear ha4 M5 N5 I5 J5
    refine IJ.out.mono ?_
    rintro e w6 ⟨rfl, rfl⟩
    go_wp2_with fail
    refine (HK.out _).mono ?_
    rintro e w7 ⟨rfl, hb⟩
    have B7 := Lib.hid (below_tr B5.out hb B5.out.size)
    clear hb
    go_wp2_with fail
    go_ret
    exact ⟨rfl, B7.out⟩
set_option maxRecDepth 100000 in
theorem mopens_walk (v : Value) (sl : Int) (bA : Option Addr) (bn bc : Nat) (z : List Int) (w : World) (hk : ∃ base, Value.okWide Try.prog w .any base 103 v) {H : Type} {enc : TypeId × Value → H} {d : DataW H} {p : List MemPlace} (hd : DataW.Trod enc Try.prog w 0 (fun _ => true) true 103 v d p) (hp : ∀ x ∈ p, x.block < w.heap.size)
    (_ : (Lit.int .i64 sl).wf = true) (h : IsRow .u8 w bA bn bc z) (_ : bc * 1 ≤ 140737488351232) :
    Calls Try.prog 11 #[v, .int .i64 sl, .slice bA bn bc] w fun e w' => e = .returned (.bool true) ∧ Below w.heap.size w w' := by
  obtain ⟨base, hk⟩ := hk
  obtain ⟨A, n, c, ks, rfl, hks⟩ := open_keys hk hd hp
  obtain ⟨b, rfl, bb⟩ := byt_of_row h
  exact mopens_any A n c ks sl bA bn bc b w hks ⟨h, bb⟩
end Go.Proofs.Ytgnooakjkpkgiaa
