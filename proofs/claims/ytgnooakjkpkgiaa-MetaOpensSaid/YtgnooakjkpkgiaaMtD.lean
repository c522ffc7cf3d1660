/-
  META PAGES: Decode: walks of both.
-/
import Derived.Test.YtgnooakjkpkgiaaMtC
import Derived.Test.YtgnooakjkpkgiaaSeG
import Derived.BigRegion
namespace Go.Proofs.Ytgnooakjkpkgiaa
open Go.RowKit
set_option linter.unusedVariables false

def nzFrom (l : List Nat) : Nat → Nat → Option Nat
  | 0, _ => none
  | f + 1, i => if at' l i = 0 then nzFrom l f (i + 1) else some i
/-- a number out of bytes -/
def nAt (l : List Nat) (k s : Nat) : Nat := numB ((l.drop k).take s)
def mpOf (l : List Nat) : Mp := ⟨nAt l 0 8, nAt l 8 4, nAt l 12 8, nAt l 20 2, nAt l 22 1, nAt l 23 2, nAt l 25 4⟩
structure DecR where
  m : Mp
  err : Nat
  pos : Nat
deriving DecidableEq
def decP (l : List Nat) : DecR :=
  if l.length = 224 then
    (if (mpOf l).cm = 0 then ⟨mp0, 5, 0⟩
    else bif rightB (mpOf l) then (match nzFrom l 195 29 with | some i => ⟨mp0, 5, i⟩ | none => ⟨mpOf l, 0, 0⟩) else ⟨mp0, 5, 22⟩)
  else ⟨mp0, 2, 0⟩
def decV (d : DecR) : Value := .tuple #[.agg (mpv d.m), .int .i64 (d.err : Int), .int .i64 (d.pos : Int)]
set_option maxRecDepth 100000 in
set_option maxHeartbeats 1000000 in
theorem dnext_any (A : Option Addr) (n c bx ax k s : Nat) (l : List Nat) (w : World) (hi : IsB w A n c l) (hx : CbB w bx 27 #[.slice A n c]) (ha : CbB w ax 3 #[.int .i64 (k : Int)]) (hks : k + s ≤ n) (h1 : 1 ≤ s) (h8 : s ≤ 8) (hn : n ≤ 4096) :
    Calls Try.prog 106 #[.int .i64 (s : Int), .pointer (some ⟨bx, 0, none⟩), .pointer (some ⟨ax, 0, none⟩)] w fun e w' => e = .returned (.int .u64 (nAt l k s : Int)) ∧ w' = w.setCell ⟨ax, 0, none⟩ (.int .i64 ((k + s : Nat) : Int)) := by
  have c1 := hx.cell (k := 0) rfl
  have c2 := ha.cell (k := 0) rfl
  have f2 := ha.free 0
  have hcap := hi.1.lenCap
  have hsl : (Instr.sliceAt 27 (.slice A n c) (some (.int .i64 (k : Int))) (some (.int .i64 ((k : Int) + (s : Int)))) none).run Try.prog w = .ok (.slice (dropA A c k) s (c - k)) w := by
    have := sl_mid w A n c k (k + s) (by omega) (by omega)
    rw [show ((k + s : Nat) : Int) = (k : Int) + (s : Int) by omega, show k + s - k = s by omega] at this
    exact this
  have hI := (isB_drop hi (m := k) (by omega)).take (m := s) (by omega)
  have HG := Lib.hid (getB_any _ s (c - k) _ w hI h1 h8)
  have hk1 : (k : Int) ≤ 4096 := by omega
  have hs1 : (s : Int) ≤ 8 := by omega
  rw [show ((k + s : Nat) : Int) = (k : Int) + (s : Int) by omega]
  unfold nAt
  generalize numB ((l.drop k).take s) = N at *
  generalize dropA A c k = D at *
  clear hi hx ha hcap hI hks h1 h8 hn
  go_enter Try.func106, Try.ntmps106
  go_wp2_with fail
  refine HG.out.mono ?_
  rintro e w' ⟨rfl, rfl⟩
  go_wp2_with fail
  go_ret
  exact ⟨rfl, rfl⟩
theorem MpB.wipe {w : World} {g : Nat} {m : Mp} (h : MpB w g m) : MpB (((((((w.setCell ⟨g, 0, none⟩ (.int .u64 0)).setCell ⟨g, 1, none⟩ (.int .u32 0)).setCell ⟨g, 2, none⟩ (.int .u64 0)).setCell ⟨g, 3, none⟩ (.int .u16 0)).setCell ⟨g, 4, none⟩ (.int .u8 0)).setCell ⟨g, 5, none⟩ (.int .u16 0)).setCell ⟨g, 6, none⟩ (.int .u32 0)) g mp0 := by
  have h7 := (((((((show CbB w g 95 (mpv m) from h).set 0 (.int .u64 0)).set 1 (.int .u32 0)).set 2 (.int .u64 0)).set 3 (.int .u16 0)).set 4 (.int .u8 0)).set 5 (.int .u16 0)).set 6 (.int .u32 0)
  have e : (((((((mpv m).setIfInBounds 0 (.int .u64 0)).setIfInBounds 1 (.int .u32 0)).setIfInBounds 2 (.int .u64 0)).setIfInBounds 3 (.int .u16 0)).setIfInBounds 4 (.int .u8 0)).setIfInBounds 5 (.int .u16 0)).setIfInBounds 6 (.int .u32 0) = mpv mp0 := by simp [mpv, mp0]
  rw [e] at h7
  exact h7
theorem MpB.far {w : World} {g c k : Nat} {m : Mp} (h : MpB w g m) (hne : g ≠ c) (u : Value) : MpB (w.setCell ⟨c, k, none⟩ u) g m := CbB.far h hne u
theorem MpB.drew {w : World} {g : Nat} {m : Mp} (h : MpB w g m) : MpB w.drew g m := h
theorem CbB.drew {w : World} {g : Nat} {T : TypeId} {cs : Array Value} (h : CbB w g T cs) : CbB w.drew g T cs := h
theorem CbB.wipe {w : World} {g c : Nat} {T : TypeId} {cs : Array Value} (h : CbB w c T cs) (hn : c ≠ g) : CbB (((((((w.setCell ⟨g, 0, none⟩ (.int .u64 0)).setCell ⟨g, 1, none⟩ (.int .u32 0)).setCell ⟨g, 2, none⟩ (.int .u64 0)).setCell ⟨g, 3, none⟩ (.int .u16 0)).setCell ⟨g, 4, none⟩ (.int .u8 0)).setCell ⟨g, 5, none⟩ (.int .u16 0)).setCell ⟨g, 6, none⟩ (.int .u32 0)) c T cs :=
  ((((((h.far hn _).far hn _).far hn _).far hn _).far hn _).far hn _).far hn _
theorem below_wipe {B g : Nat} {a w : World} (h : Below B a w) (hg : B ≤ g) : Below B a (((((((w.setCell ⟨g, 0, none⟩ (.int .u64 0)).setCell ⟨g, 1, none⟩ (.int .u32 0)).setCell ⟨g, 2, none⟩ (.int .u64 0)).setCell ⟨g, 3, none⟩ (.int .u16 0)).setCell ⟨g, 4, none⟩ (.int .u8 0)).setCell ⟨g, 5, none⟩ (.int .u16 0)).setCell ⟨g, 6, none⟩ (.int .u32 0)) :=
  ((((((h.setCell hg _).setCell hg _).setCell hg _).setCell hg _).setCell hg _).setCell hg _).setCell hg _
theorem three (w : World) (x y z : Array Value) (X Y Z : TypeId) : CbB (((w.alloc (.cells x X)).alloc (.cells y Y)).alloc (.cells z Z)) w.heap.size X x ∧ CbB (((w.alloc (.cells x X)).alloc (.cells y Y)).alloc (.cells z Z)) (w.heap.size + 1) Y y ∧ CbB (((w.alloc (.cells x X)).alloc (.cells y Y)).alloc (.cells z Z)) (w.heap.size + 1 + 1) Z z ∧ Below w.heap.size w (((w.alloc (.cells x X)).alloc (.cells y Y)).alloc (.cells z Z)) := by
  refine ⟨((CbB.new w X x).ab ((Below.refl _ _).alloc (Nat.le_refl _) _)).ab ((Below.refl _ _).alloc (Nat.le_refl _) _), ?_, ?_, (((Below.refl _ _).alloc (Nat.le_refl _) _).alloc (by simp) _).alloc (by simp; omega) _⟩
  · have := (CbB.new (w.alloc (.cells x X)) Y y).ab ((Below.refl _ _).alloc (Nat.le_refl _) (.cells z Z))
    simpa using this
  · have := CbB.new ((w.alloc (.cells x X)).alloc (.cells y Y)) Z z
    simpa using this
theorem nAt_lt {l : List Nat} (hb : Byt l) (hl : l.length = 224) (k s : Nat) (h : k + s ≤ 224) : nAt l k s < 256 ^ s := by
  unfold nAt
  have h1 : ((l.drop k).take s).length = s := by rw [List.length_take, List.length_drop]; omega
  have := numB_lt (l := (l.drop k).take s) (fun x hx => hb x (List.mem_of_mem_drop (List.mem_of_mem_take hx)))
  rwa [h1] at this
set_option maxRecDepth 100000 in
/-- what is handed back -/
theorem dec_results (tmps : Array Value) (g2 g4 : Nat) (W : World) (m : Mp) (err pos : Nat) (h2 : tmps[2]?.getD undef = .pointer (some ⟨g2, 0, none⟩)) (h3 : tmps[3]?.getD undef = .int .i64 (err : Int)) (h4 : tmps[4]?.getD undef = .pointer (some ⟨g4, 0, none⟩))
    (hm : MpB W g2 m) (hp : CbB W g4 3 #[.int .i64 (pos : Int)]) : (results Try.f57 tmps).run Try.prog W = .ok (decV ⟨m, err, pos⟩) W := by
  obtain ⟨c0, c1, c2, c3, c4, c5, c6⟩ := hm.cells
  have d0 := hp.cell (k := 0) rfl
  simp [results, Try.results57, h2, h3, h4, go_sem, c0, c1, c2, c3, c4, c5, c6, d0, decV, mpv]
set_option maxRecDepth 100000 in
set_option maxHeartbeats 1000000 in
theorem decode_short (A : Option Addr) (n c : Nat) (w : World) (h : n ≠ 224) :
    Calls Try.prog 57 #[.slice A n c] w fun e w' => e = .returned (decV ⟨mp0, 2, 0⟩) ∧ Below w.heap.size w w' := by
  have h1 : ((n : Int) != 224) = true := by simp; omega
  clear h
  go_enter Try.func57, Try.ntmps57
  go_wp2_with fail
  refine bodyPost_ret (dec_results _ (w.heap.size + 1) (w.heap.size + 1 + 1) _ mp0 2 0 rfl rfl rfl ?_ ?_) rfl ⟨rfl, ?_⟩
  · exact (three w _ _ _ _ _ _).2.1
  · exact (three w _ _ _ _ _ _).2.2.1
  · exact (three w _ _ _ _ _ _).2.2.2
set_option maxRecDepth 100000 in
theorem dnext_lit (A : Option Addr) (c : Nat) (l : List Nat) (w : World) (hi : IsB w A 224 c l) (k s t : Nat) (K S T : Int) (hK : K = (k : Int)) (hS : S = (s : Int)) (hT : T = (t : Int)) (ht : k + s = t) (h1 : 1 ≤ s) (h8 : s ≤ 8) (h224 : t ≤ 224) (mc : Array Value) :
    Calls Try.prog 106 #[.int .i64 S, .pointer (some ⟨w.heap.size, 0, none⟩), .pointer (some ⟨w.heap.size + 1 + 1, 0, none⟩)] (((w.alloc (.cells #[.slice A 224 c] 27)).alloc (.cells mc 95)).alloc (.cells #[.int .i64 K] 3)) fun e w' =>
      e = .returned (.int .u64 (nAt l k s : Int)) ∧ w' = (((w.alloc (.cells #[.slice A 224 c] 27)).alloc (.cells mc 95)).alloc (.cells #[.int .i64 T] 3)) := by
  subst hK hS hT ht
  have h0 : CbB (((w.alloc (.cells #[.slice A 224 c] 27)).alloc (.cells mc 95)).alloc (.cells #[.int .i64 (k : Int)] 3)) w.heap.size 27 #[.slice A 224 c] :=
    ((CbB.new w 27 #[.slice A 224 c]).ab ((Below.refl _ _).alloc (Nat.le_refl _) _)).ab ((Below.refl _ _).alloc (Nat.le_refl _) _)
  have h2 : CbB (((w.alloc (.cells #[.slice A 224 c] 27)).alloc (.cells mc 95)).alloc (.cells #[.int .i64 (k : Int)] 3)) (w.heap.size + 1 + 1) 3 #[.int .i64 (k : Int)] := by
    have := CbB.new ((w.alloc (.cells #[.slice A 224 c] 27)).alloc (.cells mc 95)) 3 #[.int .i64 (k : Int)]
    simpa using this
  refine (dnext_any A 224 c w.heap.size (w.heap.size + 1 + 1) k s l _ (((hi.alloc _).alloc _).alloc _) h0 h2 h224 h1 h8 (by decide)).mono ?_
  rintro e w' ⟨rfl, rfl⟩
  refine ⟨rfl, ?_⟩
  have e2 : w.heap.size + 1 + 1 = ((w.alloc (.cells #[.slice A 224 c] 27)).alloc (.cells mc 95)).heap.size := by simp
  rw [World.setCell_alloc_at _ _ _ _ _ e2]
  rfl
set_option maxRecDepth 100000 in
set_option maxHeartbeats 4000000 in
theorem decode_ok (A : Option Addr) (c : Nat) (l : List Nat) (w : World) (hi : IsB w A 224 c l) :
    Calls Try.prog 57 #[.slice A 224 c] w fun e w' => e = .returned (decV (decP l)) ∧ Below w.heap.size w w' := by
  have H1 := Lib.hid fun mc => dnext_lit A c l w hi 0 8 8 0 8 8 rfl rfl rfl rfl (by decide) (by decide) (by decide) mc
  have H2 := Lib.hid fun mc => dnext_lit A c l w hi 8 4 12 8 4 12 rfl rfl rfl rfl (by decide) (by decide) (by decide) mc
  have H3 := Lib.hid fun mc => dnext_lit A c l w hi 12 8 20 12 8 20 rfl rfl rfl rfl (by decide) (by decide) (by decide) mc
  have H4 := Lib.hid fun mc => dnext_lit A c l w hi 20 2 22 20 2 22 rfl rfl rfl rfl (by decide) (by decide) (by decide) mc
  have H5 := Lib.hid fun mc => dnext_lit A c l w hi 22 1 23 22 1 23 rfl rfl rfl rfl (by decide) (by decide) (by decide) mc
  have H6 := Lib.hid fun mc => dnext_lit A c l w hi 23 2 25 23 2 25 rfl rfl rfl rfl (by decide) (by decide) (by decide) mc
  have H7 := Lib.hid fun mc => dnext_lit A c l w hi 25 4 29 25 4 29 rfl rfl rfl rfl (by decide) (by decide) (by decide) mc
  have b1 : nAt l 8 4 < 4294967296 := nAt_lt hi.2 hi.len 8 4 (by decide)
  have b3 : nAt l 20 2 < 65536 := nAt_lt hi.2 hi.len 20 2 (by decide)
  have b4 : nAt l 22 1 < 256 := nAt_lt hi.2 hi.len 22 1 (by decide)
  have b5 : nAt l 23 2 < 65536 := nAt_lt hi.2 hi.len 23 2 (by decide)
  have b6 : nAt l 25 4 < 4294967296 := nAt_lt hi.2 hi.len 25 4 (by decide)
  have e1 : IntKind.u32.wrap (nAt l 8 4 : Int) = (nAt l 8 4 : Int) := by show (nAt l 8 4 : Int) % 4294967296 = _; omega
  have e3 : IntKind.u16.wrap (nAt l 20 2 : Int) = (nAt l 20 2 : Int) := by show (nAt l 20 2 : Int) % 65536 = _; omega
  have e4 : IntKind.u8.wrap (nAt l 22 1 : Int) = (nAt l 22 1 : Int) := by show (nAt l 22 1 : Int) % 256 = _; omega
  have e5 : IntKind.u16.wrap (nAt l 23 2 : Int) = (nAt l 23 2 : Int) := by show (nAt l 23 2 : Int) % 65536 = _; omega
  have e6 : IntKind.u32.wrap (nAt l 25 4 : Int) = (nAt l 25 4 : Int) := by show (nAt l 25 4 : Int) % 4294967296 = _; omega
  have HM := Lib.hid fun W => right_any (mpOf l) W
  have HD : Hid (decP l = if (mpOf l).cm = 0 then ⟨mp0, 5, 0⟩ else bif rightB (mpOf l) then (match nzFrom l 195 29 with | some i => ⟨mp0, 5, i⟩ | none => ⟨mpOf l, 0, 0⟩) else ⟨mp0, 5, 22⟩) := Lib.hid (if_pos hi.len)
  have HC : Hid ((mpOf l).cm = nAt l 0 8) := Lib.hid rfl
  have HV : Hid (mpv (mpOf l) = #[.int .u64 (nAt l 0 8 : Int), .int .u32 (nAt l 8 4 : Int), .int .u64 (nAt l 12 8 : Int), .int .u16 (nAt l 20 2 : Int), .int .u8 (nAt l 22 1 : Int), .int .u16 (nAt l 23 2 : Int), .int .u32 (nAt l 25 4 : Int)]) := Lib.hid rfl
  have HI := Lib.hid hi
  clear hi b1 b3 b4 b5 b6
  generalize mpOf l = m at *
  generalize decP l = D at *
  generalize nAt l 0 8 = d0 at *
  generalize nAt l 8 4 = d1 at *
  generalize nAt l 12 8 = d2 at *
  generalize nAt l 20 2 = d3 at *
  generalize nAt l 22 1 = d4 at *
  generalize nAt l 23 2 = d5 at *
  generalize nAt l 25 4 = d6 at *
  rw [HV.out] at HM
  go_enter Try.func57, Try.ntmps57
  go_wp2_with fail
  refine (H1.out _).mono ?_
  rintro e w' ⟨rfl, rfl⟩
  go_wp2_with fail
  refine (H2.out _).mono ?_
  rintro e w' ⟨rfl, rfl⟩
  go_wp2_with fail
  refine (H3.out _).mono ?_
  rintro e w' ⟨rfl, rfl⟩
  go_wp2_with fail
  refine (H4.out _).mono ?_
  rintro e w' ⟨rfl, rfl⟩
  go_wp2_with fail
  refine (H5.out _).mono ?_
  rintro e w' ⟨rfl, rfl⟩
  go_wp2_with fail
  refine (H6.out _).mono ?_
  rintro e w' ⟨rfl, rfl⟩
  go_wp2_with fail
  refine (H7.out _).mono ?_
  rintro e w' ⟨rfl, rfl⟩
  go_wp2_with fail
  refine (HM.out _).mono ?_
  rintro e w1 ⟨rfl, hb⟩
  have T3 := three w #[.slice A 224 c] (mpv m) #[.int .i64 29] 27 95 3
  rw [HV.out] at T3
  have C1 := Lib.hid (T3.1.ab hb)
  have M1 : Hid (MpB w1 (w.heap.size + 1) m) := Lib.hid (by
    have := T3.2.1.ab hb
    rw [← HV.out] at this
    exact this)
  have P1 := Lib.hid (T3.2.2.1.ab hb)
  have B1 := Lib.hid (below_tr T3.2.2.2 hb T3.2.2.2.size)
  clear hb T3 H1 H2 H3 H4 H5 H6 H7 HM e1 e3 e4 e5 e6
  have p0 := P1.out.cell (k := 0) rfl
  have p1 := P1.out.free 0
  cases hr : rightB m
  · rw [show rightE m = 2 by unfold rightE; rw [hr]; rfl]
    have m0 : w1.cell? ⟨w.heap.size + 1, 0, none⟩ = some (.int .u64 (d0 : Int)) := by rw [← HC.out]; exact M1.out.cells.1
    have HDD := HD.out
    rw [HC.out, hr] at HDD
    by_cases h0 : d0 = 0
    · rw [if_pos h0] at HDD
      subst h0
      subst HDD
      clear hr
      go_wp2_with (refine wpList_storeC rfl 95 (.tmp 2) (.tmp 42) rfl (w.heap.size + 1) rfl (mpv mp0) rfl (cs := mpv m) (t := 95) M1.out (szMp mp0) rfl (mpv_one _) ?_
                   intro w2 hw2
                   have M2 : Hid (CbB w2 (w.heap.size + 1) 95 (mpv mp0)) := Lib.hid (by rw [hw2]; exact CbB.row M1.out _)
                   have P2 : Hid (CbB w2 (w.heap.size + 1 + 1) 3 #[.int .i64 29]) := Lib.hid (by rw [hw2]; exact P1.out.rowFar (by omega) _)
                   have B2 : Hid (Below w.heap.size w w2) := Lib.hid (by rw [hw2]; exact Below.row B1.out (by omega) _)
                   clear hw2 p0 p1 m0 M1 P1 B1
                   have p0 := P2.out.cell (k := 0) rfl
                   have p1 := P2.out.free 0)
      exact bodyPost_ret (dec_results _ (w.heap.size + 1) (w.heap.size + 1 + 1) _ mp0 5 0 rfl rfl rfl (CbB.far M2.out (by omega) _) (P2.out.set 0 (.int .i64 0))) rfl ⟨rfl, B2.out.setCell (by simp; omega) _⟩
    · rw [if_neg h0, cond_false] at HDD
      subst HDD
      have hne : ((d0 : Int) == 0) = false := by simp; omega
      clear hr h0
      go_wp2_with (refine wpList_storeC rfl 95 (.tmp 2) (.tmp 43) rfl (w.heap.size + 1) rfl (mpv mp0) rfl (cs := mpv m) (t := 95) M1.out (szMp mp0) rfl (mpv_one _) ?_
                   intro w2 hw2
                   have M2 : Hid (CbB w2 (w.heap.size + 1) 95 (mpv mp0)) := Lib.hid (by rw [hw2]; exact CbB.row M1.out _)
                   have P2 : Hid (CbB w2 (w.heap.size + 1 + 1) 3 #[.int .i64 29]) := Lib.hid (by rw [hw2]; exact P1.out.rowFar (by omega) _)
                   have B2 : Hid (Below w.heap.size w w2) := Lib.hid (by rw [hw2]; exact Below.row B1.out (by omega) _)
                   clear hw2 p0 p1 m0 M1 P1 B1
                   have p0 := P2.out.cell (k := 0) rfl
                   have p1 := P2.out.free 0)
      exact bodyPost_ret (dec_results _ (w.heap.size + 1) (w.heap.size + 1 + 1) _ mp0 5 22 rfl rfl rfl (CbB.far M2.out (by omega) _) (P2.out.set 0 (.int .i64 22))) rfl ⟨rfl, B2.out.setCell (by simp; omega) _⟩
  · rw [show rightE m = 0 by unfold rightE; rw [hr]; rfl]
    have HDD : Hid (D = match nzFrom l 195 29 with | some i => ⟨mp0, 5, i⟩ | none => ⟨m, 0, 0⟩) := Lib.hid (by
      have := HD.out
      rw [hr] at this
      rw [this, if_neg]
      · rfl
      · intro e
        unfold rightB at hr
        rw [e] at hr
        simp at hr)
    clear hr p0 p1 HD HC HV
    go_wp2_with fail
    go_loopw [44] (fun _ wr => ∃ i : Nat, 29 ≤ i ∧ i ≤ 224 ∧ nzFrom l (224 - i) i = nzFrom l 195 29 ∧ CbB wr w.heap.size 27 #[.slice A 224 c] ∧ MpB wr (w.heap.size + 1) m ∧ CbB wr (w.heap.size + 1 + 1) 3 #[.int .i64 (i : Int)] ∧ Below w.heap.size w wr)
      (fun _ wr => 224 - (match wr.cell? ⟨w.heap.size + 1 + 1, 0, none⟩ with | some v => (intOf v).toNat | none => 0))
    case atStart => exact ⟨29, by decide, by decide, rfl, C1.out, M1.out, P1.out, B1.out⟩
    case round =>
      obtain ⟨i, h29, h224, hnz, hC, hM, hP, hB⟩ := hrel
      have C2 := Lib.hid hC
      have M2 := Lib.hid hM
      have P2 := Lib.hid hP
      have B2 := Lib.hid hB
      have NZ := Lib.hid hnz
      have L29 := Lib.hid h29
      have c0 := hC.cell (k := 0) rfl
      have p0 := hP.cell (k := 0) rfl
      have p1 := hP.free 0
      have hi1 : (i : Int) ≤ 224 := by omega
      clear hC hM hP hB hnz h29 C1 M1 P1 B1
      by_cases hlt : i < 224
      · have hlt2 : (i : Int) < 224 := by omega
        obtain ⟨x, rfl, hxb, hxc⟩ := (HI.out.ab B2.out).cell (by decide)
        have hx : wr.cell? (x.add i) = some (.int .u8 (at' l i : Nat)) := hxc i (by omega)
        have hst : nzFrom l (224 - i) i = if at' l i = 0 then nzFrom l (224 - (i + 1)) (i + 1) else some i := by
          rw [show 224 - i = (224 - (i + 1)) + 1 by omega, nzFrom]
        by_cases hz : at' l i = 0
        · have hz1 : (((at' l i : Nat) : Int) != 0) = false := by rw [hz]; rfl
          rw [if_pos hz] at hst
          have HST := Lib.hid hst
          have HLT := Lib.hid hlt
          generalize at' l i = ai at *
          clear hst hz hlt hxc hxb h224
          go_wp2_with fail
          refine ⟨⟨i + 1, by have := L29.out; omega, HLT.out, ?_, C2.out.far (by omega) _, CbB.far M2.out (by omega) _, ?_, B2.out.setCell (by simp; omega) _⟩, ?_⟩
          · rw [← HST.out]; exact NZ.out
          · have := P2.out.set 0 (.int .i64 ((i : Int) + 1))
            rw [show ((i + 1 : Nat) : Int) = (i : Int) + 1 by omega]
            exact this
          · have q1 : (wr.setCell ⟨w.heap.size + 1 + 1, 0, none⟩ (.int .i64 ((i : Int) + 1))).cell? ⟨w.heap.size + 1 + 1, 0, none⟩ = some (.int .i64 ((i : Int) + 1)) := (P2.out.set 0 (.int .i64 ((i : Int) + 1))).cell (k := 0) rfl
            have q0 : wr.cell? ⟨w.heap.size + 1 + 1, 0, none⟩ = some (.int .i64 (i : Int)) := P2.out.cell (k := 0) rfl
            rw [q1, q0]
            have := HLT.out
            simp only [intOf]
            omega
        · have hz1 : (((at' l i : Nat) : Int) != 0) = true := by simp [hz]
          rw [if_neg hz] at hst
          have HST := Lib.hid hst
          generalize at' l i = ai at *
          clear hst hz hlt hxc hxb h224
          go_wp2_with fail
          obtain ⟨m0, m1, m2, m3, m4, m5, m6⟩ := M2.out.cells
          have f0 := CbB.free M2.out 0
          have f1 := CbB.free M2.out 1
          have f2 := CbB.free M2.out 2
          have f3 := CbB.free M2.out 3
          have f4 := CbB.free M2.out 4
          have f5 := CbB.free M2.out 5
          have f6 := CbB.free M2.out 6
          have HE : Hid (D = ⟨mp0, 5, i⟩) := Lib.hid (by
            have h1 := HDD.out
            have h2 := NZ.out
            rw [HST.out] at h2
            rw [← h2] at h1
            exact h1)
          go_region
          all_goals
            go_wp2_with fail
            rw [HE.out]
            refine bodyPost_ret (dec_results _ (w.heap.size + 1) (w.heap.size + 1 + 1) _ mp0 5 i rfl rfl rfl ?_ ?_) rfl ⟨rfl, ?_⟩
            · exact MpB.drew (MpB.far (MpB.wipe M2.out) (by omega) _)
            · exact CbB.drew (CbB.set (CbB.wipe P2.out (by omega)) 0 (.int .i64 (i : Int)))
            · exact ((below_wipe B2.out (by omega)).setCell (by simp; omega) _).drew
      · obtain rfl : i = 224 := by omega
        have HE : Hid (D = ⟨m, 0, 0⟩) := Lib.hid (by
          have h1 := HDD.out
          have h2 := NZ.out
          rw [show 224 - 224 = 0 from rfl, nzFrom] at h2
          rw [← h2] at h1
          exact h1)
        clear hlt h224 NZ HDD
        obtain ⟨m0, m1, m2, m3, m4, m5, m6⟩ := M2.out.cells
        have f0 := CbB.free M2.out 0
        have f1 := CbB.free M2.out 1
        have f2 := CbB.free M2.out 2
        have f3 := CbB.free M2.out 3
        have f4 := CbB.free M2.out 4
        have f5 := CbB.free M2.out 5
        have f6 := CbB.free M2.out 6
        go_wp2_with (refine wpList_storeC rfl 95 (.tmp 2) (.tmp 57) rfl (w.heap.size + 1) rfl (mpv m) rfl (cs := mpv m) (t := 95) M2.out (szMp m) rfl (mpv_one _) ?_
                     intro w2 hw2
                     have M3 : Hid (CbB w2 (w.heap.size + 1) 95 (mpv m)) := Lib.hid (by rw [hw2]; exact CbB.row M2.out _)
                     have P3 : Hid (CbB w2 (w.heap.size + 1 + 1) 3 #[.int .i64 ((224 : Nat) : Int)]) := Lib.hid (by rw [hw2]; exact P2.out.rowFar (by omega) _)
                     have B3 : Hid (Below w.heap.size w w2) := Lib.hid (by rw [hw2]; exact Below.row B2.out (by omega) _)
                     clear hw2 p0 p1 c0 m0 m1 m2 m3 m4 m5 m6 f0 f1 f2 f3 f4 f5 f6
                     have p0 := P3.out.cell (k := 0) rfl
                     have p1 := P3.out.free 0)
        rw [HE.out]
        exact bodyPost_ret (dec_results _ (w.heap.size + 1) (w.heap.size + 1 + 1) _ m 0 0 rfl rfl rfl (CbB.far M3.out (by omega) _) (P3.out.set 0 (.int .i64 0))) rfl ⟨rfl, B3.out.setCell (by simp; omega) _⟩
theorem decode_any (A : Option Addr) (n c : Nat) (l : List Nat) (w : World) (hi : IsB w A n c l) :
    Calls Try.prog 57 #[.slice A n c] w fun e w' => e = .returned (decV (decP l)) ∧ Below w.heap.size w w' := by
  have hl := hi.len
  by_cases hn : n = 224
  · subst hn
    exact decode_ok A c l w hi
  · rw [show decP l = ⟨mp0, 2, 0⟩ from if_neg (by omega)]
    exact decode_short A n c w hn
end Go.Proofs.Ytgnooakjkpkgiaa
