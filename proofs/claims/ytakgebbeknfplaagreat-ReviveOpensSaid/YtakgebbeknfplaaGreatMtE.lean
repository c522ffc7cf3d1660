/-
  META PAGES: Decode: walks of both.
  META PAGES: the reference's Decode.
-/
import Derived.Test.YtakgebbeknfplaaGreatMtC
import Derived.Test.YtakgebbeknfplaaGreatSeG
import Derived.BigRegion
namespace Go.Proofs.YtakgebbeknfplaaGreat
open Go.RowKit
set_option linter.unusedVariables false

def nzFrom (l : List Nat) : Nat → Nat → Option Nat
  | 0, _ => none
  | f + 1, i => if at' l i = 0 then nzFrom l f (i + 1) else some i
/-- a number out of bytes -/
def nAt (l : List Nat) (k s : Nat) : Nat := numB ((l.drop k).take s)
def mpOf (l : List Nat) : Mp := ⟨nAt l 0 8, nAt l 8 4, nAt l 12 8, nAt l 20 2, nAt l 22 1, nAt l 23 2, nAt l 25 4⟩
structure DecR where
  m : Mp
  err : Nat
  pos : Nat
deriving DecidableEq
def decP (l : List Nat) : DecR :=
  if l.length = 224 then
    (if (mpOf l).cm = 0 then ⟨mp0, 5, 0⟩
    else bif rightB (mpOf l) then (match nzFrom l 195 29 with | some i => ⟨mp0, 5, i⟩ | none => ⟨mpOf l, 0, 0⟩) else ⟨mp0, 5, 22⟩)
  else ⟨mp0, 2, 0⟩
def decV (d : DecR) : Value := .tuple #[.agg (mpv d.m), .int .i64 (d.err : Int), .int .i64 (d.pos : Int)]
set_option maxRecDepth 100000 in
set_option maxHeartbeats 1000000 in
theorem dnext_any (A : Option Addr) (n c bx ax k s : Nat) (l : List Nat) (w : World) (hi : IsB w A n c l) (hx : CbB w bx 22 #[.slice A n c]) (ha : CbB w ax 3 #[.int .i64 (k : Int)]) (hks : k + s ≤ n) (h1 : 1 ≤ s) (h8 : s ≤ 8) (hn : n ≤ 4096) :
    Calls Tryz.prog 185 #[.int .i64 (s : Int), .pointer (some ⟨bx, 0, none⟩), .pointer (some ⟨ax, 0, none⟩)] w fun e w' => e = .returned (.int .u64 (nAt l k s : Int)) ∧ w' = w.setCell ⟨ax, 0, none⟩ (.int .i64 ((k + s : Nat) : Int)) := by
  have c1 := hx.cell (k := 0) rfl
  have c2 := ha.cell (k := 0) rfl
  have f2 := ha.free 0
  have hcap := hi.1.lenCap
  have hsl : (Instr.sliceAt 22 (.slice A n c) (some (.int .i64 (k : Int))) (some (.int .i64 ((k : Int) + (s : Int)))) none).run Tryz.prog w = .ok (.slice (dropA A c k) s (c - k)) w := by
    have := sl_mid w A n c k (k + s) (by omega) (by omega)
    rw [show ((k + s : Nat) : Int) = (k : Int) + (s : Int) by omega, show k + s - k = s by omega] at this
    exact this
  have hI := (isB_drop hi (m := k) (by omega)).take (m := s) (by omega)
  have HG := Lib.hid (getB_any _ s (c - k) _ w hI h1 h8)
  have hk1 : (k : Int) ≤ 4096 := by omega
  have hs1 : (s : Int) ≤ 8 := by omega
  rw [show ((k + s : Nat) : Int) = (k : Int) + (s : Int) by omega]
  unfold nAt
  generalize numB ((l.drop k).take s) = N at *
  generalize dropA A c k = D at *
  clear hi hx ha hcap hI hks h1 h8 hn
  go_enter Tryz.func185, Tryz.ntmps185
  go_wp2_with fail
  refine HG.out.mono ?_
  rintro e w' ⟨rfl, rfl⟩
  go_wp2_with fail
  go_ret
  exact ⟨rfl, rfl⟩
theorem MpB.wipe {w : World} {g : Nat} {m : Mp} (h : MpB w g m) : MpB (((((((w.setCell ⟨g, 0, none⟩ (.int .u64 0)).setCell ⟨g, 1, none⟩ (.int .u32 0)).setCell ⟨g, 2, none⟩ (.int .u64 0)).setCell ⟨g, 3, none⟩ (.int .u16 0)).setCell ⟨g, 4, none⟩ (.int .u8 0)).setCell ⟨g, 5, none⟩ (.int .u16 0)).setCell ⟨g, 6, none⟩ (.int .u32 0)) g mp0 := by
  have h7 := (((((((show CbB w g 63 (mpv m) from h).set 0 (.int .u64 0)).set 1 (.int .u32 0)).set 2 (.int .u64 0)).set 3 (.int .u16 0)).set 4 (.int .u8 0)).set 5 (.int .u16 0)).set 6 (.int .u32 0)
  have e : (((((((mpv m).setIfInBounds 0 (.int .u64 0)).setIfInBounds 1 (.int .u32 0)).setIfInBounds 2 (.int .u64 0)).setIfInBounds 3 (.int .u16 0)).setIfInBounds 4 (.int .u8 0)).setIfInBounds 5 (.int .u16 0)).setIfInBounds 6 (.int .u32 0) = mpv mp0 := by simp [mpv, mp0]
  rw [e] at h7
  exact h7
theorem MpB.far {w : World} {g c k : Nat} {m : Mp} (h : MpB w g m) (hne : g ≠ c) (u : Value) : MpB (w.setCell ⟨c, k, none⟩ u) g m := CbB.far h hne u
theorem MpB.drew {w : World} {g : Nat} {m : Mp} (h : MpB w g m) : MpB w.drew g m := h
theorem CbB.drew {w : World} {g : Nat} {T : TypeId} {cs : Array Value} (h : CbB w g T cs) : CbB w.drew g T cs := h
theorem CbB.wipe {w : World} {g c : Nat} {T : TypeId} {cs : Array Value} (h : CbB w c T cs) (hn : c ≠ g) : CbB (((((((w.setCell ⟨g, 0, none⟩ (.int .u64 0)).setCell ⟨g, 1, none⟩ (.int .u32 0)).setCell ⟨g, 2, none⟩ (.int .u64 0)).setCell ⟨g, 3, none⟩ (.int .u16 0)).setCell ⟨g, 4, none⟩ (.int .u8 0)).setCell ⟨g, 5, none⟩ (.int .u16 0)).setCell ⟨g, 6, none⟩ (.int .u32 0)) c T cs :=
  ((((((h.far hn _).far hn _).far hn _).far hn _).far hn _).far hn _).far hn _
theorem below_wipe {B g : Nat} {a w : World} (h : Below B a w) (hg : B ≤ g) : Below B a (((((((w.setCell ⟨g, 0, none⟩ (.int .u64 0)).setCell ⟨g, 1, none⟩ (.int .u32 0)).setCell ⟨g, 2, none⟩ (.int .u64 0)).setCell ⟨g, 3, none⟩ (.int .u16 0)).setCell ⟨g, 4, none⟩ (.int .u8 0)).setCell ⟨g, 5, none⟩ (.int .u16 0)).setCell ⟨g, 6, none⟩ (.int .u32 0)) :=
  ((((((h.setCell hg _).setCell hg _).setCell hg _).setCell hg _).setCell hg _).setCell hg _).setCell hg _
theorem three (w : World) (x y z : Array Value) (X Y Z : TypeId) : CbB (((w.alloc (.cells x X)).alloc (.cells y Y)).alloc (.cells z Z)) w.heap.size X x ∧ CbB (((w.alloc (.cells x X)).alloc (.cells y Y)).alloc (.cells z Z)) (w.heap.size + 1) Y y ∧ CbB (((w.alloc (.cells x X)).alloc (.cells y Y)).alloc (.cells z Z)) (w.heap.size + 1 + 1) Z z ∧ Below w.heap.size w (((w.alloc (.cells x X)).alloc (.cells y Y)).alloc (.cells z Z)) := by
  refine ⟨((CbB.new w X x).ab ((Below.refl _ _).alloc (Nat.le_refl _) _)).ab ((Below.refl _ _).alloc (Nat.le_refl _) _), ?_, ?_, (((Below.refl _ _).alloc (Nat.le_refl _) _).alloc (by simp) _).alloc (by simp; omega) _⟩
  · have := (CbB.new (w.alloc (.cells x X)) Y y).ab ((Below.refl _ _).alloc (Nat.le_refl _) (.cells z Z))
    simpa using this
  · have := CbB.new ((w.alloc (.cells x X)).alloc (.cells y Y)) Z z
    simpa using this
theorem nAt_lt {l : List Nat} (hb : Byt l) (hl : l.length = 224) (k s : Nat) (h : k + s ≤ 224) : nAt l k s < 256 ^ s := by
  unfold nAt
  have h1 : ((l.drop k).take s).length = s := by rw [List.length_take, List.length_drop]; omega
  have := numB_lt (l := (l.drop k).take s) (fun x hx => hb x (List.mem_of_mem_drop (List.mem_of_mem_take hx)))
  rwa [h1] at this
set_option maxRecDepth 100000 in
/-- what is handed back -/
theorem dec_results (tmps : Array Value) (g2 g4 : Nat) (W : World) (m : Mp) (err pos : Nat) (h2 : tmps[2]?.getD undef = .pointer (some ⟨g2, 0, none⟩)) (h3 : tmps[3]?.getD undef = .int .i64 (err : Int)) (h4 : tmps[4]?.getD undef = .pointer (some ⟨g4, 0, none⟩))
    (hm : MpB W g2 m) (hp : CbB W g4 3 #[.int .i64 (pos : Int)]) : (results Tryz.f132 tmps).run Tryz.prog W = .ok (decV ⟨m, err, pos⟩) W := by
  obtain ⟨c0, c1, c2, c3, c4, c5, c6⟩ := hm.cells
  have d0 := hp.cell (k := 0) rfl
  simp [results, Tryz.results132, h2, h3, h4, go_sem, c0, c1, c2, c3, c4, c5, c6, d0, decV, mpv]
set_option maxRecDepth 100000 in
set_option maxHeartbeats 1000000 in
theorem decode_short (A : Option Addr) (n c : Nat) (w : World) (h : n ≠ 224) :
    Calls Tryz.prog 132 #[.slice A n c] w fun e w' => e = .returned (decV ⟨mp0, 2, 0⟩) ∧ Below w.heap.size w w' := by
  have h1 : ((n : Int) != 224) = true := by simp; omega
  clear h
  go_enter Tryz.func132, Tryz.ntmps132
  go_wp2_with fail
  refine bodyPost_ret (dec_results _ (w.heap.size + 1) (w.heap.size + 1 + 1) _ mp0 2 0 rfl rfl rfl ?_ ?_) rfl ⟨rfl, ?_⟩
  · exact (three w _ _ _ _ _ _).2.1
  · exact (three w _ _ _ _ _ _).2.2.1
  · exact (three w _ _ _ _ _ _).2.2.2
set_option maxRecDepth 100000 in
theorem dnext_lit (A : Option Addr) (c : Nat) (l : List Nat) (w : World) (hi : IsB w A 224 c l) (k s t : Nat) (K S T : Int) (hK : K = (k : Int)) (hS : S = (s : Int)) (hT : T = (t : Int)) (ht : k + s = t) (h1 : 1 ≤ s) (h8 : s ≤ 8) (h224 : t ≤ 224) (mc : Array Value) :
    Calls Tryz.prog 185 #[.int .i64 S, .pointer (some ⟨w.heap.size, 0, none⟩), .pointer (some ⟨w.heap.size + 1 + 1, 0, none⟩)] (((w.alloc (.cells #[.slice A 224 c] 22)).alloc (.cells mc 63)).alloc (.cells #[.int .i64 K] 3)) fun e w' =>
      e = .returned (.int .u64 (nAt l k s : Int)) ∧ w' = (((w.alloc (.cells #[.slice A 224 c] 22)).alloc (.cells mc 63)).alloc (.cells #[.int .i64 T] 3)) := by
  subst hK hS hT ht
  have h0 : CbB (((w.alloc (.cells #[.slice A 224 c] 22)).alloc (.cells mc 63)).alloc (.cells #[.int .i64 (k : Int)] 3)) w.heap.size 22 #[.slice A 224 c] :=
    ((CbB.new w 22 #[.slice A 224 c]).ab ((Below.refl _ _).alloc (Nat.le_refl _) _)).ab ((Below.refl _ _).alloc (Nat.le_refl _) _)
  have h2 : CbB (((w.alloc (.cells #[.slice A 224 c] 22)).alloc (.cells mc 63)).alloc (.cells #[.int .i64 (k : Int)] 3)) (w.heap.size + 1 + 1) 3 #[.int .i64 (k : Int)] := by
    have := CbB.new ((w.alloc (.cells #[.slice A 224 c] 22)).alloc (.cells mc 63)) 3 #[.int .i64 (k : Int)]
    simpa using this
  refine (dnext_any A 224 c w.heap.size (w.heap.size + 1 + 1) k s l _ (((hi.alloc _).alloc _).alloc _) h0 h2 h224 h1 h8 (by decide)).mono ?_
  rintro e w' ⟨rfl, rfl⟩
  refine ⟨rfl, ?_⟩
  have e2 : w.heap.size + 1 + 1 = ((w.alloc (.cells #[.slice A 224 c] 22)).alloc (.cells mc 63)).heap.size := by simp
  rw [World.setCell_alloc_at _ _ _ _ _ e2]
  rfl
set_option maxRecDepth 100000 in
set_option maxHeartbeats 4000000 in
theorem decode_ok (A : Option Addr) (c : Nat) (l : List Nat) (w : World) (hi : IsB w A 224 c l) :
    Calls Tryz.prog 132 #[.slice A 224 c] w fun e w' => e = .returned (decV (decP l)) ∧ Below w.heap.size w w' := by
  have H1 := Lib.hid fun mc => dnext_lit A c l w hi 0 8 8 0 8 8 rfl rfl rfl rfl (by decide) (by decide) (by decide) mc
  have H2 := Lib.hid fun mc => dnext_lit A c l w hi 8 4 12 8 4 12 rfl rfl rfl rfl (by decide) (by decide) (by decide) mc
  have H3 := Lib.hid fun mc => dnext_lit A c l w hi 12 8 20 12 8 20 rfl rfl rfl rfl (by decide) (by decide) (by decide) mc
  have H4 := Lib.hid fun mc => dnext_lit A c l w hi 20 2 22 20 2 22 rfl rfl rfl rfl (by decide) (by decide) (by decide) mc
  have H5 := Lib.hid fun mc => dnext_lit A c l w hi 22 1 23 22 1 23 rfl rfl rfl rfl (by decide) (by decide) (by decide) mc
  have H6 := Lib.hid fun mc => dnext_lit A c l w hi 23 2 25 23 2 25 rfl rfl rfl rfl (by decide) (by decide) (by decide) mc
  have H7 := Lib.hid fun mc => dnext_lit A c l w hi 25 4 29 25 4 29 rfl rfl rfl rfl (by decide) (by decide) (by decide) mc
  have b1 : nAt l 8 4 < 4294967296 := nAt_lt hi.2 hi.len 8 4 (by decide)
  have b3 : nAt l 20 2 < 65536 := nAt_lt hi.2 hi.len 20 2 (by decide)
  have b4 : nAt l 22 1 < 256 := nAt_lt hi.2 hi.len 22 1 (by decide)
  have b5 : nAt l 23 2 < 65536 := nAt_lt hi.2 hi.len 23 2 (by decide)
  have b6 : nAt l 25 4 < 4294967296 := nAt_lt hi.2 hi.len 25 4 (by decide)
  have e1 : IntKind.u32.wrap (nAt l 8 4 : Int) = (nAt l 8 4 : Int) := by show (nAt l 8 4 : Int) % 4294967296 = _; omega
  have e3 : IntKind.u16.wrap (nAt l 20 2 : Int) = (nAt l 20 2 : Int) := by show (nAt l 20 2 : Int) % 65536 = _; omega
  have e4 : IntKind.u8.wrap (nAt l 22 1 : Int) = (nAt l 22 1 : Int) := by show (nAt l 22 1 : Int) % 256 = _; omega
  have e5 : IntKind.u16.wrap (nAt l 23 2 : Int) = (nAt l 23 2 : Int) := by show (nAt l 23 2 : Int) % 65536 = _; omega
  have e6 : IntKind.u32.wrap (nAt l 25 4 : Int) = (nAt l 25 4 : Int) := by show (nAt l 25 4 : Int) % 4294967296 = _; omega
  have HM := Lib.hid fun W => right_any (mpOf l) W
  have HD : Hid (decP l = if (mpOf l).cm = 0 then ⟨mp0, 5, 0⟩ else bif rightB (mpOf l) then (match nzFrom l 195 29 with | some i => ⟨mp0, 5, i⟩ | none => ⟨mpOf l, 0, 0⟩) else ⟨mp0, 5, 22⟩) := Lib.hid (if_pos hi.len)
  have HC : Hid ((mpOf l).cm = nAt l 0 8) := Lib.hid rfl
  have HV : Hid (mpv (mpOf l) = #[.int .u64 (nAt l 0 8 : Int), .int .u32 (nAt l 8 4 : Int), .int .u64 (nAt l 12 8 : Int), .int .u16 (nAt l 20 2 : Int), .int .u8 (nAt l 22 1 : Int), .int .u16 (nAt l 23 2 : Int), .int .u32 (nAt l 25 4 : Int)]) := Lib.hid rfl
  have HI := Lib.hid hi
  clear hi b1 b3 b4 b5 b6
  generalize mpOf l = m at *
  generalize decP l = D at *
  generalize nAt l 0 8 = d0 at *
  generalize nAt l 8 4 = d1 at *
  generalize nAt l 12 8 = d2 at *
  generalize nAt l 20 2 = d3 at *
  generalize nAt l 22 1 = d4 at *
  generalize nAt l 23 2 = d5 at *
  generalize nAt l 25 4 = d6 at *
  rw [HV.out] at HM
  go_enter Tryz.func132, Tryz.ntmps132
  go_wp2_with fail
  refine (H1.out _).mono ?_
  rintro e w' ⟨rfl, rfl⟩
  go_wp2_with fail
  refine (H2.out _).mono ?_
  rintro e w' ⟨rfl, rfl⟩
  go_wp2_with fail
  refine (H3.out _).mono ?_
  rintro e w' ⟨rfl, rfl⟩
  go_wp2_with fail
  refine (H4.out _).mono ?_
  rintro e w' ⟨rfl, rfl⟩
  go_wp2_with fail
  refine (H5.out _).mono ?_
  rintro e w' ⟨rfl, rfl⟩
  go_wp2_with fail
  refine (H6.out _).mono ?_
  rintro e w' ⟨rfl, rfl⟩
  go_wp2_with fail
  refine (H7.out _).mono ?_
  rintro e w' ⟨rfl, rfl⟩
  go_wp2_with fail
  refine (HM.out _).mono ?_
  rintro e w1 ⟨rfl, hb⟩
  have T3 := three w #[.slice A 224 c] (mpv m) #[.int .i64 29] 22 63 3
  rw [HV.out] at T3
  have C1 := Lib.hid (T3.1.ab hb)
  have M1 : Hid (MpB w1 (w.heap.size + 1) m) := Lib.hid (by
    have := T3.2.1.ab hb
    rw [← HV.out] at this
    exact this)
  have P1 := Lib.hid (T3.2.2.1.ab hb)
  have B1 := Lib.hid (below_tr T3.2.2.2 hb T3.2.2.2.size)
  clear hb T3 H1 H2 H3 H4 H5 H6 H7 HM e1 e3 e4 e5 e6
  have p0 := P1.out.cell (k := 0) rfl
  have p1 := P1.out.free 0
  cases hr : rightB m
  · rw [show rightE m = 2 by unfold rightE; rw [hr]; rfl]
    have m0 : w1.cell? ⟨w.heap.size + 1, 0, none⟩ = some (.int .u64 (d0 : Int)) := by rw [← HC.out]; exact M1.out.cells.1
    have HDD := HD.out
    rw [HC.out, hr] at HDD
    by_cases h0 : d0 = 0
    · rw [if_pos h0] at HDD
      subst h0
      subst HDD
      clear hr
      go_wp2_with (refine wpList_storeC rfl 63 (.tmp 2) (.tmp 42) rfl (w.heap.size + 1) rfl (mpv mp0) rfl (cs := mpv m) (t := 63) M1.out (szMp mp0) rfl (mpv_one _) ?_
                   intro w2 hw2
                   have M2 : Hid (CbB w2 (w.heap.size + 1) 63 (mpv mp0)) := Lib.hid (by rw [hw2]; exact CbB.row M1.out _)
                   have P2 : Hid (CbB w2 (w.heap.size + 1 + 1) 3 #[.int .i64 29]) := Lib.hid (by rw [hw2]; exact P1.out.rowFar (by omega) _)
                   have B2 : Hid (Below w.heap.size w w2) := Lib.hid (by rw [hw2]; exact Below.row B1.out (by omega) _)
                   clear hw2 p0 p1 m0 M1 P1 B1
                   have p0 := P2.out.cell (k := 0) rfl
                   have p1 := P2.out.free 0)
      exact bodyPost_ret (dec_results _ (w.heap.size + 1) (w.heap.size + 1 + 1) _ mp0 5 0 rfl rfl rfl (CbB.far M2.out (by omega) _) (P2.out.set 0 (.int .i64 0))) rfl ⟨rfl, B2.out.setCell (by simp; omega) _⟩
    · rw [if_neg h0, cond_false] at HDD
      subst HDD
      have hne : ((d0 : Int) == 0) = false := by simp; omega
      clear hr h0
      go_wp2_with (refine wpList_storeC rfl 63 (.tmp 2) (.tmp 43) rfl (w.heap.size + 1) rfl (mpv mp0) rfl (cs := mpv m) (t := 63) M1.out (szMp mp0) rfl (mpv_one _) ?_
                   intro w2 hw2
                   have M2 : Hid (CbB w2 (w.heap.size + 1) 63 (mpv mp0)) := Lib.hid (by rw [hw2]; exact CbB.row M1.out _)
                   have P2 : Hid (CbB w2 (w.heap.size + 1 + 1) 3 #[.int .i64 29]) := Lib.hid (by rw [hw2]; exact P1.out.rowFar (by omega) _)
                   have B2 : Hid (Below w.heap.size w w2) := Lib.hid (by rw [hw2]; exact Below.row B1.out (by omega) _)
                   clear hw2 p0 p1 m0 M1 P1 B1
                   have p0 := P2.out.cell (k := 0) rfl
                   have p1 := P2.out.free 0)
      exact bodyPost_ret (dec_results _ (w.heap.size + 1) (w.heap.size + 1 + 1) _ mp0 5 22 rfl rfl rfl (CbB.far M2.out (by omega) _) (P2.out.set 0 (.int .i64 22))) rfl ⟨rfl, B2.out.setCell (by simp; omega) _⟩
  · rw [show rightE m = 0 by unfold rightE; rw [hr]; rfl]
    have HDD : Hid (D = match nzFrom l 195 29 with | some i => ⟨mp0, 5, i⟩ | none => ⟨m, 0, 0⟩) := Lib.hid (by
      have := HD.out
      rw [hr] at this
      rw [this, if_neg]
      · rfl
      · intro e
        unfold rightB at hr
        rw [e] at hr
        simp at hr)
    clear hr p0 p1 HD HC HV
    go_wp2_with fail
    go_loopw [44] (fun _ wr => ∃ i : Nat, 29 ≤ i ∧ i ≤ 224 ∧ nzFrom l (224 - i) i = nzFrom l 195 29 ∧ CbB wr w.heap.size 22 #[.slice A 224 c] ∧ MpB wr (w.heap.size + 1) m ∧ CbB wr (w.heap.size + 1 + 1) 3 #[.int .i64 (i : Int)] ∧ Below w.heap.size w wr)
      (fun _ wr => 224 - (match wr.cell? ⟨w.heap.size + 1 + 1, 0, none⟩ with | some v => (intOf v).toNat | none => 0))
    case atStart => exact ⟨29, by decide, by decide, rfl, C1.out, M1.out, P1.out, B1.out⟩
    case round =>
      obtain ⟨i, h29, h224, hnz, hC, hM, hP, hB⟩ := hrel
      have C2 := Lib.hid hC
      have M2 := Lib.hid hM
      have P2 := Lib.hid hP
      have B2 := Lib.hid hB
      have NZ := Lib.hid hnz
      have L29 := Lib.hid h29
      have c0 := hC.cell (k := 0) rfl
      have p0 := hP.cell (k := 0) rfl
      have p1 := hP.free 0
      have hi1 : (i : Int) ≤ 224 := by omega
      clear hC hM hP hB hnz h29 C1 M1 P1 B1
      by_cases hlt : i < 224
      · have hlt2 : (i : Int) < 224 := by omega
        obtain ⟨x, rfl, hxb, hxc⟩ := (HI.out.ab B2.out).cell (by decide)
        have hx : wr.cell? (x.add i) = some (.int .u8 (at' l i : Nat)) := hxc i (by omega)
        have hst : nzFrom l (224 - i) i = if at' l i = 0 then nzFrom l (224 - (i + 1)) (i + 1) else some i := by
          rw [show 224 - i = (224 - (i + 1)) + 1 by omega, nzFrom]
        by_cases hz : at' l i = 0
        · have hz1 : (((at' l i : Nat) : Int) != 0) = false := by rw [hz]; rfl
          rw [if_pos hz] at hst
          have HST := Lib.hid hst
          have HLT := Lib.hid hlt
          generalize at' l i = ai at *
          clear hst hz hlt hxc hxb h224
          go_wp2_with fail
          refine ⟨⟨i + 1, by have := L29.out; omega, HLT.out, ?_, C2.out.far (by omega) _, CbB.far M2.out (by omega) _, ?_, B2.out.setCell (by simp; omega) _⟩, ?_⟩
          · rw [← HST.out]; exact NZ.out
          · have := P2.out.set 0 (.int .i64 ((i : Int) + 1))
            rw [show ((i + 1 : Nat) : Int) = (i : Int) + 1 by omega]
            exact this
          · have q1 : (wr.setCell ⟨w.heap.size + 1 + 1, 0, none⟩ (.int .i64 ((i : Int) + 1))).cell? ⟨w.heap.size + 1 + 1, 0, none⟩ = some (.int .i64 ((i : Int) + 1)) := (P2.out.set 0 (.int .i64 ((i : Int) + 1))).cell (k := 0) rfl
            have q0 : wr.cell? ⟨w.heap.size + 1 + 1, 0, none⟩ = some (.int .i64 (i : Int)) := P2.out.cell (k := 0) rfl
            rw [q1, q0]
            have := HLT.out
            simp only [intOf]
            omega
        · have hz1 : (((at' l i : Nat) : Int) != 0) = true := by simp [hz]
          rw [if_neg hz] at hst
          have HST := Lib.hid hst
          generalize at' l i = ai at *
          clear hst hz hlt hxc hxb h224
          go_wp2_with fail
          obtain ⟨m0, m1, m2, m3, m4, m5, m6⟩ := M2.out.cells
          have f0 := CbB.free M2.out 0
          have f1 := CbB.free M2.out 1
          have f2 := CbB.free M2.out 2
          have f3 := CbB.free M2.out 3
          have f4 := CbB.free M2.out 4
          have f5 := CbB.free M2.out 5
          have f6 := CbB.free M2.out 6
          have HE : Hid (D = ⟨mp0, 5, i⟩) := Lib.hid (by
            have h1 := HDD.out
            have h2 := NZ.out
            rw [HST.out] at h2
            rw [← h2] at h1
            exact h1)
          go_region
          all_goals
            go_wp2_with fail
            rw [HE.out]
            refine bodyPost_ret (dec_results _ (w.heap.size + 1) (w.heap.size + 1 + 1) _ mp0 5 i rfl rfl rfl ?_ ?_) rfl ⟨rfl, ?_⟩
            · exact MpB.drew (MpB.far (MpB.wipe M2.out) (by omega) _)
            · exact CbB.drew (CbB.set (CbB.wipe P2.out (by omega)) 0 (.int .i64 (i : Int)))
            · exact ((below_wipe B2.out (by omega)).setCell (by simp; omega) _).drew
      · obtain rfl : i = 224 := by omega
        have HE : Hid (D = ⟨m, 0, 0⟩) := Lib.hid (by
          have h1 := HDD.out
          have h2 := NZ.out
          rw [show 224 - 224 = 0 from rfl, nzFrom] at h2
          rw [← h2] at h1
          exact h1)
        clear hlt h224 NZ HDD
        obtain ⟨m0, m1, m2, m3, m4, m5, m6⟩ := M2.out.cells
        have f0 := CbB.free M2.out 0
        have f1 := CbB.free M2.out 1
        have f2 := CbB.free M2.out 2
        have f3 := CbB.free M2.out 3
        have f4 := CbB.free M2.out 4
        have f5 := CbB.free M2.out 5
        have f6 := CbB.free M2.out 6
        go_wp2_with (refine wpList_storeC rfl 63 (.tmp 2) (.tmp 57) rfl (w.heap.size + 1) rfl (mpv m) rfl (cs := mpv m) (t := 63) M2.out (szMp m) rfl (mpv_one _) ?_
                     intro w2 hw2
                     have M3 : Hid (CbB w2 (w.heap.size + 1) 63 (mpv m)) := Lib.hid (by rw [hw2]; exact CbB.row M2.out _)
                     have P3 : Hid (CbB w2 (w.heap.size + 1 + 1) 3 #[.int .i64 ((224 : Nat) : Int)]) := Lib.hid (by rw [hw2]; exact P2.out.rowFar (by omega) _)
                     have B3 : Hid (Below w.heap.size w w2) := Lib.hid (by rw [hw2]; exact Below.row B2.out (by omega) _)
                     clear hw2 p0 p1 c0 m0 m1 m2 m3 m4 m5 m6 f0 f1 f2 f3 f4 f5 f6
                     have p0 := P3.out.cell (k := 0) rfl
                     have p1 := P3.out.free 0)
        rw [HE.out]
        exact bodyPost_ret (dec_results _ (w.heap.size + 1) (w.heap.size + 1 + 1) _ m 0 0 rfl rfl rfl (CbB.far M3.out (by omega) _) (P3.out.set 0 (.int .i64 0))) rfl ⟨rfl, B3.out.setCell (by simp; omega) _⟩
theorem decode_any (A : Option Addr) (n c : Nat) (l : List Nat) (w : World) (hi : IsB w A n c l) :
    Calls Tryz.prog 132 #[.slice A n c] w fun e w' => e = .returned (decV (decP l)) ∧ Below w.heap.size w w' := by
  have hl := hi.len
  by_cases hn : n = 224
  · subst hn
    exact decode_ok A c l w hi
  · rw [show decP l = ⟨mp0, 2, 0⟩ from if_neg (by omega)]
    exact decode_short A n c w hn
end Go.Proofs.YtakgebbeknfplaaGreat

namespace Go.Proofs.YtakgebbeknfplaaGreat
open Go.RowKit
set_option linter.unusedVariables false

/-- a fresh meta page of noughts -/
def NewM (w0 : World) (v : Value) (W : World) : Prop := ∃ g, v = .pointer (some ⟨g, 0, none⟩) ∧ MpB W g mp0 ∧ w0.heap.size ≤ g
theorem NewM.mono (w0 : World) : Mono (NewM w0) := fun v W W' ⟨g, h1, h2, h3⟩ hb => ⟨g, h1, h2.ab hb, h3⟩
theorem yields_newM {o : Oper} {a : Act} {W w0 : World} (ho : o.op = .alloc 63) (hb : Below w0.heap.size w0 W) : Yields Tryz.prog o a W false (NewM w0) := by
  refine .inl ⟨.pointer (some ⟨W.heap.size, 0, none⟩), W.alloc (.cells (mpv mp0) 63), ?_, ⟨W.heap.size, rfl, MpB.new W mp0, hb.size⟩, (Below.refl _ _).alloc (Nat.le_refl _) _, fresh_no _ _ _⟩
  unfold execOp
  simp only [ho]
  go_simp
  rfl
theorem num_at {A : Option Addr} {c : Nat} {l : List Nat} {w : World} (hi : IsB w A 224 c l) (k s : Nat) (h : k + s ≤ 224) (h1 : 1 ≤ s) (h8 : s ≤ 8) (W : World) (hb : Below w.heap.size w W) :
    Calls Tryz.prog 186 #[.slice (dropA A c k) s (c - k)] W fun e w' => e = .returned (.int .u64 (nAt l k s : Int)) ∧ W = w' :=
  number_any _ s _ _ W ((isB_drop (hi.ab hb) (m := k) (by omega)).take (m := s) (by omega)) h1 h8
theorem num_at0 {A : Option Addr} {c : Nat} {l : List Nat} {w : World} (hi : IsB w A 224 c l) (s : Nat) (h : s ≤ 224) (h1 : 1 ≤ s) (h8 : s ≤ 8) (W : World) (hb : Below w.heap.size w W) :
    Calls Tryz.prog 186 #[.slice A s c] W fun e w' => e = .returned (.int .u64 (nAt l 0 s : Int)) ∧ W = w' := by
  have := number_any A s c _ W ((hi.ab hb).take (m := s) (by omega)) h1 h8
  rw [show nAt l 0 s = numB (l.take s) by simp [nAt]]
  exact this
set_option maxRecDepth 100000 in
theorem rdec_results (tmps : Array Value) (g2 : Nat) (W : World) (m : Mp) (err pos : Nat) (h2 : tmps[2]?.getD undef = .pointer (some ⟨g2, 0, none⟩)) (h3 : tmps[3]?.getD undef = .int .i64 (err : Int)) (h4 : tmps[4]?.getD undef = .int .i64 (pos : Int))
    (hm : MpB W g2 m) : (results Tryz.f135 tmps).run Tryz.prog W = .ok (decV ⟨m, err, pos⟩) W := by
  obtain ⟨c0, c1, c2, c3, c4, c5, c6⟩ := hm.cells
  simp [results, Tryz.results135, h2, h3, h4, go_sem, c0, c1, c2, c3, c4, c5, c6, decV, mpv]
set_option maxRecDepth 100000 in
set_option maxHeartbeats 1000000 in
theorem rdecode_short (A : Option Addr) (n c : Nat) (w : World) (h : n ≠ 224) :
    Calls Tryz.prog 135 #[.slice A n c] w fun e w' => e = .returned (decV ⟨mp0, 2, 0⟩) ∧ Below w.heap.size w w' := by
  have h1 : ((n : Int) != 224) = true := by simp; omega
  clear h
  go_enter Tryz.func135, Tryz.ntmps135
  go_wp2_with fail
  refine bodyPost_ret (rdec_results _ w.heap.size _ mp0 2 0 rfl rfl rfl ?_) rfl ⟨rfl, ?_⟩
  · exact (CbB.new w 63 (mpv mp0)).ab ((Below.refl _ _).alloc (Nat.le_refl _) _)
  · exact ((Below.refl _ _).alloc (Nat.le_refl _) _).alloc (by simp) _
set_option maxRecDepth 100000 in
set_option maxHeartbeats 8000000 in
theorem rdecode_ok (A : Option Addr) (c : Nat) (l : List Nat) (w : World) (hi : IsB w A 224 c l) :
    Calls Tryz.prog 135 #[.slice A 224 c] w fun e w' => e = .returned (decV (decP l)) ∧ Below w.heap.size w w' := by
  have hcap := hi.1.lenCap
  have N1 := Lib.hid (num_at0 hi 8 (by decide) (by decide) (by decide))
  have N2 := Lib.hid (num_at hi 8 4 (by decide) (by decide) (by decide))
  have N3 := Lib.hid (num_at hi 12 8 (by decide) (by decide) (by decide))
  have N4 := Lib.hid (num_at hi 20 2 (by decide) (by decide) (by decide))
  have N6 := Lib.hid (num_at hi 23 2 (by decide) (by decide) (by decide))
  have N7 := Lib.hid (num_at hi 25 4 (by decide) (by decide) (by decide))
  have S1 : Hid (∀ W, (Instr.sliceAt 22 (.slice A 224 c) none (some (.int .i64 8)) none).run Tryz.prog W = .ok (.slice A 8 c) W) := Lib.hid fun W => sl_upto W A 224 c 8 (by omega)
  have S2 : Hid (∀ W, (Instr.sliceAt 22 (.slice A 224 c) (some (.int .i64 8)) (some (.int .i64 12)) none).run Tryz.prog W = .ok (.slice (dropA A c 8) 4 (c - 8)) W) := Lib.hid fun W => sl_mid W A 224 c 8 12 (by decide) (by omega)
  have S3 : Hid (∀ W, (Instr.sliceAt 22 (.slice A 224 c) (some (.int .i64 12)) (some (.int .i64 20)) none).run Tryz.prog W = .ok (.slice (dropA A c 12) 8 (c - 12)) W) := Lib.hid fun W => sl_mid W A 224 c 12 20 (by decide) (by omega)
  have S4 : Hid (∀ W, (Instr.sliceAt 22 (.slice A 224 c) (some (.int .i64 20)) (some (.int .i64 22)) none).run Tryz.prog W = .ok (.slice (dropA A c 20) 2 (c - 20)) W) := Lib.hid fun W => sl_mid W A 224 c 20 22 (by decide) (by omega)
  have S6 : Hid (∀ W, (Instr.sliceAt 22 (.slice A 224 c) (some (.int .i64 23)) (some (.int .i64 25)) none).run Tryz.prog W = .ok (.slice (dropA A c 23) 2 (c - 23)) W) := Lib.hid fun W => sl_mid W A 224 c 23 25 (by decide) (by omega)
  have S7 : Hid (∀ W, (Instr.sliceAt 22 (.slice A 224 c) (some (.int .i64 25)) (some (.int .i64 29)) none).run Tryz.prog W = .ok (.slice (dropA A c 25) 4 (c - 25)) W) := Lib.hid fun W => sl_mid W A 224 c 25 29 (by decide) (by omega)
  have b1 : nAt l 8 4 < 4294967296 := nAt_lt hi.2 hi.len 8 4 (by decide)
  have b3 : nAt l 20 2 < 65536 := nAt_lt hi.2 hi.len 20 2 (by decide)
  have b5 : nAt l 23 2 < 65536 := nAt_lt hi.2 hi.len 23 2 (by decide)
  have b6 : nAt l 25 4 < 4294967296 := nAt_lt hi.2 hi.len 25 4 (by decide)
  have e1 : Hid (IntKind.u32.wrap (nAt l 8 4 : Int) = (nAt l 8 4 : Int)) := Lib.hid (by show (nAt l 8 4 : Int) % 4294967296 = _; omega)
  have e3 : Hid (IntKind.u16.wrap (nAt l 20 2 : Int) = (nAt l 20 2 : Int)) := Lib.hid (by show (nAt l 20 2 : Int) % 65536 = _; omega)
  have e5 : Hid (IntKind.u16.wrap (nAt l 23 2 : Int) = (nAt l 23 2 : Int)) := Lib.hid (by show (nAt l 23 2 : Int) % 65536 = _; omega)
  have e6 : Hid (IntKind.u32.wrap (nAt l 25 4 : Int) = (nAt l 25 4 : Int)) := Lib.hid (by show (nAt l 25 4 : Int) % 4294967296 = _; omega)
  have h22 : nAt l 22 1 = at' l 22 := by
    have hl := hi.len
    unfold nAt at'
    rw [List.drop_eq_getElem_cons (show 22 < l.length by omega)]
    simp only [List.take_succ_cons, List.take_zero, numB, List.foldl_cons, List.foldl_nil, List.getElem?_eq_getElem (show 22 < l.length by omega), Option.getD_some]
    omega
  have HD : Hid (decP l = if (mpOf l).cm = 0 then ⟨mp0, 5, 0⟩ else bif rightB (mpOf l) then (match nzFrom l 195 29 with | some i => ⟨mp0, 5, i⟩ | none => ⟨mpOf l, 0, 0⟩) else ⟨mp0, 5, 22⟩) := Lib.hid (if_pos hi.len)
  have HM := Lib.hid fun W => rright_any (mpOf l) W
  have HC : Hid ((mpOf l).cm = nAt l 0 8) := Lib.hid rfl
  have HV : Hid (mpv (mpOf l) = #[.int .u64 (nAt l 0 8 : Int), .int .u32 (nAt l 8 4 : Int), .int .u64 (nAt l 12 8 : Int), .int .u16 (nAt l 20 2 : Int), .int .u8 (at' l 22 : Nat), .int .u16 (nAt l 23 2 : Int), .int .u32 (nAt l 25 4 : Int)]) := Lib.hid (by unfold mpv mpOf; simp only [h22])
  have HV1 : Hid (mpv ⟨nAt l 0 8, 0, 0, 0, 0, nAt l 23 2, nAt l 25 4⟩ = #[.int .u64 (nAt l 0 8 : Int), .int .u32 0, .int .u64 0, .int .u16 0, .int .u8 0, .int .u16 (nAt l 23 2 : Int), .int .u32 (nAt l 25 4 : Int)]) := Lib.hid rfl
  have HI := Lib.hid hi
  clear hi b1 b3 b5 b6 hcap h22
  generalize mpOf l = m at *
  generalize decP l = D at *
  generalize nAt l 0 8 = d0 at *
  generalize nAt l 8 4 = d1 at *
  generalize nAt l 12 8 = d2 at *
  generalize nAt l 20 2 = d3 at *
  generalize nAt l 23 2 = d5 at *
  generalize nAt l 25 4 = d6 at *
  rw [HV.out] at HM
  go_enter Tryz.func135, Tryz.ntmps135
  go_wp2_with fail
  have R0 : Hid (MpB ((w.alloc (.cells (mpv mp0) 63)).alloc (.cells (mpv mp0) 63)) w.heap.size mp0 ∧ MpB ((w.alloc (.cells (mpv mp0) 63)).alloc (.cells (mpv mp0) 63)) (w.heap.size + 1) mp0 ∧ Below w.heap.size w ((w.alloc (.cells (mpv mp0) 63)).alloc (.cells (mpv mp0) 63))) := Lib.hid (by
    refine ⟨(CbB.new w 63 (mpv mp0)).ab ((Below.refl _ _).alloc (Nat.le_refl _) _), ?_, ((Below.refl _ _).alloc (Nat.le_refl _) _).alloc (by simp) _⟩
    have := CbB.new (w.alloc (.cells (mpv mp0) 63)) 63 (mpv mp0)
    rw [show (w.alloc (.cells (mpv mp0) 63)).heap.size = w.heap.size + 1 by simp] at this
    exact this)
  have hW0 : ∃ W0, W0 = ((w.alloc (.cells (mpv mp0) 63)).alloc (.cells (mpv mp0) 63)) := ⟨_, rfl⟩
  obtain ⟨w0, hw0⟩ := hW0
  rw [← hw0] at R0
  rw [show ((w.alloc (.cells #[.int .u64 0, .int .u32 0, .int .u64 0, .int .u16 0, .int .u8 0, .int .u16 0, .int .u32 0] 63)).alloc (.cells #[.int .u64 0, .int .u32 0, .int .u64 0, .int .u16 0, .int .u8 0, .int .u16 0, .int .u32 0] 63)) = w0 from hw0.symm]
  clear hw0
  have Q0 := Lib.hid R0.out.1
  have E0 := Lib.hid R0.out.2.1
  have B0 := Lib.hid R0.out.2.2
  clear R0
  refine wp_wide3 [⟨12, IsR (.slice A 224 c), [], false⟩, ⟨13, IsR (.slice A 8 c), [0], false⟩, ⟨14, IsR (.int .u64 (d0 : Int)), [1], false⟩, ⟨15, IsR (.slice A 224 c), [], false⟩, ⟨16, IsR (.slice (dropA A c 23) 2 (c - 23)), [3], false⟩, ⟨17, IsR (.int .u64 (d5 : Int)), [4], false⟩, ⟨18, IsR (.int .u16 (d5 : Int)), [5], false⟩, ⟨19, IsR (.slice A 224 c), [], false⟩, ⟨20, IsR (.slice (dropA A c 25) 4 (c - 25)), [7], false⟩, ⟨21, IsR (.int .u64 (d6 : Int)), [8], false⟩, ⟨22, IsR (.int .u32 (d6 : Int)), [9], false⟩, ⟨23, IsR (.agg #[.int .u64 (d0 : Int), .int .u32 0, .int .u64 0, .int .u16 0, .int .u8 0, .int .u16 (d5 : Int), .int .u32 (d6 : Int)]), [2, 6, 10], false⟩, ⟨6, NewM w0, [], false⟩] (by kernel_rfl) (by kernel_rfl) rfl rfl rfl ⟨?_, ?_, ?_, ?_, ?_, ?_, ?_, ?_, ?_, ?_, ?_, ?_, ?_, trivial⟩ ?_
  · refine ⟨rfl, IsR.mono _, fun a W hA hb hd => takes_plain rfl (yields_value _ ?_ rfl)⟩
    have h0 : a.tmps[0]?.getD undef = .slice A 224 c := (eval_get a 0).trans ((hA.eval (by simp)).trans rfl)
    go_simp
  · refine ⟨rfl, IsR.mono _, fun a W hA hb hd => takes_plain rfl (yields_value _ ?_ rfl)⟩
    have h12 : a.tmps[12]?.getD undef = .slice A 224 c := (eval_get a 12).trans (hd 0 (by simp) _ rfl)
    have hsl := S1.out W
    go_simp
  · refine ⟨rfl, IsR.mono _, fun a W hA hb hd => takes_plain rfl ?_⟩
    have h13 : a.tmps[13]?.getD undef = .slice A 8 c := (eval_get a 13).trans (hd 1 (by simp) _ rfl)
    refine yields_call 186 #[.slice A 8 c] (by go_simp) ((N1.out W (below_tr B0.out hb B0.out.size)).mono ?_)
    rintro e W1 ⟨rfl, rfl⟩
    exact ⟨_, rfl, rfl, Below.refl _ _⟩
  · refine ⟨rfl, IsR.mono _, fun a W hA hb hd => takes_plain rfl (yields_value _ ?_ rfl)⟩
    have h0 : a.tmps[0]?.getD undef = .slice A 224 c := (eval_get a 0).trans ((hA.eval (by simp)).trans rfl)
    go_simp
  · refine ⟨rfl, IsR.mono _, fun a W hA hb hd => takes_plain rfl (yields_value _ ?_ rfl)⟩
    have h15 : a.tmps[15]?.getD undef = .slice A 224 c := (eval_get a 15).trans (hd 3 (by simp) _ rfl)
    have hsl := S6.out W
    go_simp
  · refine ⟨rfl, IsR.mono _, fun a W hA hb hd => takes_plain rfl ?_⟩
    have h16 : a.tmps[16]?.getD undef = .slice (dropA A c 23) 2 (c - 23) := (eval_get a 16).trans (hd 4 (by simp) _ rfl)
    refine yields_call 186 #[.slice (dropA A c 23) 2 (c - 23)] (by go_simp) ((N6.out W (below_tr B0.out hb B0.out.size)).mono ?_)
    rintro e W1 ⟨rfl, rfl⟩
    exact ⟨_, rfl, rfl, Below.refl _ _⟩
  · refine ⟨rfl, IsR.mono _, fun a W hA hb hd => takes_plain rfl (yields_value _ ?_ rfl)⟩
    have h17 : a.tmps[17]?.getD undef = .int .u64 (d5 : Int) := (eval_get a 17).trans (hd 5 (by simp) _ rfl)
    have hz := e5.out
    go_simp
  · refine ⟨rfl, IsR.mono _, fun a W hA hb hd => takes_plain rfl (yields_value _ ?_ rfl)⟩
    have h0 : a.tmps[0]?.getD undef = .slice A 224 c := (eval_get a 0).trans ((hA.eval (by simp)).trans rfl)
    go_simp
  · refine ⟨rfl, IsR.mono _, fun a W hA hb hd => takes_plain rfl (yields_value _ ?_ rfl)⟩
    have h19 : a.tmps[19]?.getD undef = .slice A 224 c := (eval_get a 19).trans (hd 7 (by simp) _ rfl)
    have hsl := S7.out W
    go_simp
  · refine ⟨rfl, IsR.mono _, fun a W hA hb hd => takes_plain rfl ?_⟩
    have h20 : a.tmps[20]?.getD undef = .slice (dropA A c 25) 4 (c - 25) := (eval_get a 20).trans (hd 8 (by simp) _ rfl)
    refine yields_call 186 #[.slice (dropA A c 25) 4 (c - 25)] (by go_simp) ((N7.out W (below_tr B0.out hb B0.out.size)).mono ?_)
    rintro e W1 ⟨rfl, rfl⟩
    exact ⟨_, rfl, rfl, Below.refl _ _⟩
  · refine ⟨rfl, IsR.mono _, fun a W hA hb hd => takes_plain rfl (yields_value _ ?_ rfl)⟩
    have h21 : a.tmps[21]?.getD undef = .int .u64 (d6 : Int) := (eval_get a 21).trans (hd 9 (by simp) _ rfl)
    have hz := e6.out
    go_simp
  · refine ⟨rfl, IsR.mono _, fun a W hA hb hd => takes_plain rfl (yields_value _ ?_ rfl)⟩
    have h14 : a.tmps[14]?.getD undef = .int .u64 (d0 : Int) := (eval_get a 14).trans (hd 2 (by simp) _ rfl)
    have h18 : a.tmps[18]?.getD undef = .int .u16 (d5 : Int) := (eval_get a 18).trans (hd 6 (by simp) _ rfl)
    have h22 : a.tmps[22]?.getD undef = .int .u32 (d6 : Int) := (eval_get a 22).trans (hd 10 (by simp) _ rfl)
    go_simp
  · refine ⟨rfl, NewM.mono _, fun a W hA hb hd => takes_plain rfl ?_⟩
    exact yields_newM rfl hb
  intro vs1 w1 hR hF hb
  have e12 : vs1 12 = .slice A 224 c := hR 0 _ rfl
  have e13 : vs1 13 = .slice A 8 c := hR 1 _ rfl
  have e14 : vs1 14 = .int .u64 (d0 : Int) := hR 2 _ rfl
  have e15 : vs1 15 = .slice A 224 c := hR 3 _ rfl
  have e16 : vs1 16 = .slice (dropA A c 23) 2 (c - 23) := hR 4 _ rfl
  have e17 : vs1 17 = .int .u64 (d5 : Int) := hR 5 _ rfl
  have e18 : vs1 18 = .int .u16 (d5 : Int) := hR 6 _ rfl
  have e19 : vs1 19 = .slice A 224 c := hR 7 _ rfl
  have e20 : vs1 20 = .slice (dropA A c 25) 4 (c - 25) := hR 8 _ rfl
  have e21 : vs1 21 = .int .u64 (d6 : Int) := hR 9 _ rfl
  have e22 : vs1 22 = .int .u32 (d6 : Int) := hR 10 _ rfl
  have e23 : vs1 23 = .agg #[.int .u64 (d0 : Int), .int .u32 0, .int .u64 0, .int .u16 0, .int .u8 0, .int .u16 (d5 : Int), .int .u32 (d6 : Int)] := hR 11 _ rfl
  obtain ⟨g6, e6', hM6, hg6⟩ : NewM w0 (vs1 6) w1 := hR 12 _ rfl
  simp only [List.map_cons, List.map_nil, List.foldl_cons, List.foldl_nil, List.length_cons, List.length_nil, List.drop_succ_cons, List.drop_zero, Act.put, List.setIfInBounds_toArray, List.set_cons_zero, List.set_cons_succ, e12, e13, e14, e15, e16, e17, e18, e19, e20, e21, e22, e23, e6']
  have M1 := Lib.hid hM6
  have G1 : Hid (w0.heap.size ≤ g6) := Lib.hid hg6
  have Q1 := Lib.hid (Q0.out.ab hb)
  have E1 := Lib.hid (E0.out.ab hb)
  have B1 := Lib.hid (below_tr B0.out hb B0.out.size)
  have SZ : Hid (w.heap.size + 1 < w0.heap.size) := Lib.hid E0.out.lt
  clear hR hF hb hM6 hg6 e12 e13 e14 e15 e16 e17 e18 e19 e20 e21 e22 e23 e6' Q0 E0 B0
  go_wp2_with (refine wpList_storeC rfl 63 (.tmp 6) (.tmp 23) rfl g6 rfl (mpv ⟨d0, 0, 0, 0, 0, d5, d6⟩) rfl (cs := mpv mp0) (t := 63) M1.out (szMp _) rfl (mpv_one _) ?_
               intro w2 hw2
               have M2 : Hid (MpB w2 g6 ⟨d0, 0, 0, 0, 0, d5, d6⟩) := Lib.hid (by rw [hw2]; exact CbB.row M1.out _)
               have Q2 : Hid (MpB w2 w.heap.size mp0) := Lib.hid (by rw [hw2]; exact CbB.rowFar Q1.out (by have := G1.out; have := SZ.out; omega) _)
               have E2 : Hid (MpB w2 (w.heap.size + 1) mp0) := Lib.hid (by rw [hw2]; exact CbB.rowFar E1.out (by have := G1.out; have := SZ.out; omega) _)
               have B2 : Hid (Below w.heap.size w w2) := Lib.hid (by rw [hw2]; exact Below.row B1.out (by have := G1.out; have := SZ.out; omega) _)
               clear hw2 M1 Q1 E1 B1)
  refine wp_wide3 [⟨24, IsR (.slice A 224 c), [], false⟩, ⟨25, IsR (.slice (dropA A c 8) 4 (c - 8)), [0], false⟩, ⟨26, IsR (.int .u64 (d1 : Int)), [1], false⟩, ⟨27, IsR (.int .u32 (d1 : Int)), [2], false⟩, ⟨28, IsR (.slice A 224 c), [], false⟩, ⟨29, IsR (.slice (dropA A c 12) 8 (c - 12)), [4], false⟩, ⟨30, IsR (.int .u64 (d2 : Int)), [5], false⟩, ⟨31, IsR (.slice A 224 c), [], false⟩, ⟨32, IsR (.slice (dropA A c 20) 2 (c - 20)), [7], false⟩, ⟨33, IsR (.int .u64 (d3 : Int)), [8], false⟩, ⟨34, IsR (.int .u16 (d3 : Int)), [9], false⟩, ⟨35, IsR (.agg #[.int .u32 (d1 : Int), .int .u64 (d2 : Int), .int .u16 (d3 : Int)]), [3, 6, 10], false⟩, ⟨36, IsR (.pointer (some ⟨g6, 1, none⟩)), [], false⟩, ⟨37, IsR (.pointer (some ⟨g6, 1, none⟩)), [12], false⟩] (by kernel_rfl) (by kernel_rfl) rfl rfl rfl ⟨?_, ?_, ?_, ?_, ?_, ?_, ?_, ?_, ?_, ?_, ?_, ?_, ?_, ?_, trivial⟩ ?_
  · refine ⟨rfl, IsR.mono _, fun a W hA hb hd => takes_plain rfl (yields_value _ ?_ rfl)⟩
    have h0 : a.tmps[0]?.getD undef = .slice A 224 c := (eval_get a 0).trans ((hA.eval (by simp)).trans rfl)
    go_simp
  · refine ⟨rfl, IsR.mono _, fun a W hA hb hd => takes_plain rfl (yields_value _ ?_ rfl)⟩
    have h24 : a.tmps[24]?.getD undef = .slice A 224 c := (eval_get a 24).trans (hd 0 (by simp) _ rfl)
    have hsl := S2.out W
    go_simp
  · refine ⟨rfl, IsR.mono _, fun a W hA hb hd => takes_plain rfl ?_⟩
    have h25 : a.tmps[25]?.getD undef = .slice (dropA A c 8) 4 (c - 8) := (eval_get a 25).trans (hd 1 (by simp) _ rfl)
    refine yields_call 186 #[.slice (dropA A c 8) 4 (c - 8)] (by go_simp) ((N2.out W (below_tr B2.out hb B2.out.size)).mono ?_)
    rintro e W1 ⟨rfl, rfl⟩
    exact ⟨_, rfl, rfl, Below.refl _ _⟩
  · refine ⟨rfl, IsR.mono _, fun a W hA hb hd => takes_plain rfl (yields_value _ ?_ rfl)⟩
    have h26 : a.tmps[26]?.getD undef = .int .u64 (d1 : Int) := (eval_get a 26).trans (hd 2 (by simp) _ rfl)
    have hz := e1.out
    go_simp
  · refine ⟨rfl, IsR.mono _, fun a W hA hb hd => takes_plain rfl (yields_value _ ?_ rfl)⟩
    have h0 : a.tmps[0]?.getD undef = .slice A 224 c := (eval_get a 0).trans ((hA.eval (by simp)).trans rfl)
    go_simp
  · refine ⟨rfl, IsR.mono _, fun a W hA hb hd => takes_plain rfl (yields_value _ ?_ rfl)⟩
    have h28 : a.tmps[28]?.getD undef = .slice A 224 c := (eval_get a 28).trans (hd 4 (by simp) _ rfl)
    have hsl := S3.out W
    go_simp
  · refine ⟨rfl, IsR.mono _, fun a W hA hb hd => takes_plain rfl ?_⟩
    have h29 : a.tmps[29]?.getD undef = .slice (dropA A c 12) 8 (c - 12) := (eval_get a 29).trans (hd 5 (by simp) _ rfl)
    refine yields_call 186 #[.slice (dropA A c 12) 8 (c - 12)] (by go_simp) ((N3.out W (below_tr B2.out hb B2.out.size)).mono ?_)
    rintro e W1 ⟨rfl, rfl⟩
    exact ⟨_, rfl, rfl, Below.refl _ _⟩
  · refine ⟨rfl, IsR.mono _, fun a W hA hb hd => takes_plain rfl (yields_value _ ?_ rfl)⟩
    have h0 : a.tmps[0]?.getD undef = .slice A 224 c := (eval_get a 0).trans ((hA.eval (by simp)).trans rfl)
    go_simp
  · refine ⟨rfl, IsR.mono _, fun a W hA hb hd => takes_plain rfl (yields_value _ ?_ rfl)⟩
    have h31 : a.tmps[31]?.getD undef = .slice A 224 c := (eval_get a 31).trans (hd 7 (by simp) _ rfl)
    have hsl := S4.out W
    go_simp
  · refine ⟨rfl, IsR.mono _, fun a W hA hb hd => takes_plain rfl ?_⟩
    have h32 : a.tmps[32]?.getD undef = .slice (dropA A c 20) 2 (c - 20) := (eval_get a 32).trans (hd 8 (by simp) _ rfl)
    refine yields_call 186 #[.slice (dropA A c 20) 2 (c - 20)] (by go_simp) ((N4.out W (below_tr B2.out hb B2.out.size)).mono ?_)
    rintro e W1 ⟨rfl, rfl⟩
    exact ⟨_, rfl, rfl, Below.refl _ _⟩
  · refine ⟨rfl, IsR.mono _, fun a W hA hb hd => takes_plain rfl (yields_value _ ?_ rfl)⟩
    have h33 : a.tmps[33]?.getD undef = .int .u64 (d3 : Int) := (eval_get a 33).trans (hd 9 (by simp) _ rfl)
    have hz := e3.out
    go_simp
  · refine ⟨rfl, IsR.mono _, fun a W hA hb hd => takes_plain rfl (yields_value _ ?_ rfl)⟩
    have h27 : a.tmps[27]?.getD undef = .int .u32 (d1 : Int) := (eval_get a 27).trans (hd 3 (by simp) _ rfl)
    have h30 : a.tmps[30]?.getD undef = .int .u64 (d2 : Int) := (eval_get a 30).trans (hd 6 (by simp) _ rfl)
    have h34 : a.tmps[34]?.getD undef = .int .u16 (d3 : Int) := (eval_get a 34).trans (hd 10 (by simp) _ rfl)
    go_simp
  · refine ⟨rfl, IsR.mono _, fun a W hA hb hd => takes_plain rfl (yields_value _ ?_ rfl)⟩
    have h6 : a.tmps[6]?.getD undef = .pointer (some ⟨g6, 0, none⟩) := (eval_get a 6).trans ((hA.eval (by simp)).trans rfl)
    go_simp
  · refine ⟨rfl, IsR.mono _, fun a W hA hb hd => takes_plain rfl (yields_value _ ?_ rfl)⟩
    have h36 : a.tmps[36]?.getD undef = .pointer (some ⟨g6, 1, none⟩) := (eval_get a 36).trans (hd 12 (by simp) _ rfl)
    go_simp
  intro vs3 w3 hR hF hb
  have e24 : vs3 24 = .slice A 224 c := hR 0 _ rfl
  have e25 : vs3 25 = .slice (dropA A c 8) 4 (c - 8) := hR 1 _ rfl
  have e26 : vs3 26 = .int .u64 (d1 : Int) := hR 2 _ rfl
  have e27 : vs3 27 = .int .u32 (d1 : Int) := hR 3 _ rfl
  have e28 : vs3 28 = .slice A 224 c := hR 4 _ rfl
  have e29 : vs3 29 = .slice (dropA A c 12) 8 (c - 12) := hR 5 _ rfl
  have e30 : vs3 30 = .int .u64 (d2 : Int) := hR 6 _ rfl
  have e31 : vs3 31 = .slice A 224 c := hR 7 _ rfl
  have e32 : vs3 32 = .slice (dropA A c 20) 2 (c - 20) := hR 8 _ rfl
  have e33 : vs3 33 = .int .u64 (d3 : Int) := hR 9 _ rfl
  have e34 : vs3 34 = .int .u16 (d3 : Int) := hR 10 _ rfl
  have e35 : vs3 35 = .agg #[.int .u32 (d1 : Int), .int .u64 (d2 : Int), .int .u16 (d3 : Int)] := hR 11 _ rfl
  have e36 : vs3 36 = .pointer (some ⟨g6, 1, none⟩) := hR 12 _ rfl
  have e37 : vs3 37 = .pointer (some ⟨g6, 1, none⟩) := hR 13 _ rfl
  simp only [List.map_cons, List.map_nil, List.foldl_cons, List.foldl_nil, List.length_cons, List.length_nil, List.drop_succ_cons, List.drop_zero, Act.put, List.setIfInBounds_toArray, List.set_cons_zero, List.set_cons_succ, e24, e25, e26, e27, e28, e29, e30, e31, e32, e33, e34, e35, e36, e37]
  have M3 := Lib.hid (M2.out.ab hb)
  have Q3 := Lib.hid (Q2.out.ab hb)
  have E3 := Lib.hid (E2.out.ab hb)
  have B3 := Lib.hid (below_tr B2.out hb B2.out.size)
  clear hR hF hb e24 e25 e26 e27 e28 e29 e30 e31 e32 e33 e34 e35 e36 e37 M2 Q2 E2 B2 N1 N2 N3 N4 N6 N7 S1 S2 S3 S4 S6 S7 e1 e3 e5
  obtain ⟨m0, m1, m2, m3, m4, m5, m6⟩ := M3.out.cells
  have f1 := CbB.free M3.out 1
  have f2 := CbB.free M3.out 2
  have f3 := CbB.free M3.out 3
  have f4 := CbB.free M3.out 4
  obtain ⟨x, rfl, hxb, hxc⟩ := (HI.out.ab B3.out).cell (by decide)
  have hx : w3.cell? ⟨x.block, x.off + 22, none⟩ = some (.int .u8 (at' l 22 : Nat)) := hxc 22 (by decide)
  go_upto_region 7 with (fail)
  obtain ⟨w4, hw4⟩ : ∃ w4, ((((w3.setCell ⟨g6, 1, none⟩ (.int .u32 (d1 : Int))).setCell ⟨g6, 2, none⟩ (.int .u64 (d2 : Int))).setCell ⟨g6, 3, none⟩ (.int .u16 (d3 : Int))).setCell ⟨g6, 4, none⟩ (.int .u8 (at' l 22 : Nat))) = w4 := ⟨_, rfl⟩
  rw [hw4]
  have gne : w.heap.size ≠ g6 ∧ w.heap.size + 1 ≠ g6 ∧ w.heap.size ≤ g6 := by have := G1.out; have := SZ.out; omega
  have M4 : Hid (MpB w4 g6 m) := Lib.hid (by
    have h4 := ((((show CbB w3 g6 63 (mpv ⟨d0, 0, 0, 0, 0, d5, d6⟩) from M3.out).set 1 (.int .u32 (d1 : Int))).set 2 (.int .u64 (d2 : Int))).set 3 (.int .u16 (d3 : Int))).set 4 (.int .u8 (at' l 22 : Nat))
    rw [hw4] at h4
    have e : ((((mpv ⟨d0, 0, 0, 0, 0, d5, d6⟩).setIfInBounds 1 (.int .u32 (d1 : Int))).setIfInBounds 2 (.int .u64 (d2 : Int))).setIfInBounds 3 (.int .u16 (d3 : Int))).setIfInBounds 4 (.int .u8 (at' l 22 : Nat)) = mpv m := by rw [HV.out, HV1.out]; simp
    rw [e] at h4
    exact h4)
  have Q4 : Hid (MpB w4 w.heap.size mp0) := Lib.hid (by rw [← hw4]; exact (((Q3.out.far gne.1 _).far gne.1 _).far gne.1 _).far gne.1 _)
  have E4 : Hid (MpB w4 (w.heap.size + 1) mp0) := Lib.hid (by rw [← hw4]; exact (((E3.out.far gne.2.1 _).far gne.2.1 _).far gne.2.1 _).far gne.2.1 _)
  have B4 : Hid (Below w.heap.size w w4) := Lib.hid (by rw [← hw4]; exact (((B3.out.setCell gne.2.2 _).setCell gne.2.2 _).setCell gne.2.2 _).setCell gne.2.2 _)
  have GN := Lib.hid gne
  clear hw4 gne M3 Q3 E3 B3 m0 m1 m2 m3 m4 m5 m6 f1 f2 f3 f4 hx hxb hxc HV1 G1 SZ
  obtain ⟨q0, q1, q2, q3, q4, q5, q6⟩ := E4.out.cells
  simp only [mp0] at q0 q1 q2 q3 q4 q5 q6
  obtain ⟨m0, m1, m2, m3, m4, m5, m6⟩ := M4.out.cells
  rw [HC.out] at m0
  have HDD := HD.out
  rw [HC.out] at HDD
  by_cases h0 : d0 = 0
  · rw [if_pos h0] at HDD
    subst h0
    subst HDD
    clear m1 m2 m3 m4 m5 m6
    go_wp2_with (refine wpList_storeC rfl 63 (.tmp 2) (.tmp 46) rfl w.heap.size rfl (mpv mp0) rfl (cs := mpv mp0) (t := 63) Q4.out (szMp _) rfl (mpv_one _) ?_
                 intro w5 hw5
                 have Q5 : Hid (MpB w5 w.heap.size mp0) := Lib.hid (by rw [hw5]; exact CbB.row Q4.out _)
                 have B5 : Hid (Below w.heap.size w w5) := Lib.hid (by rw [hw5]; exact Below.row B4.out (Nat.le_refl _) _)
                 clear hw5)
    exact bodyPost_ret (rdec_results _ w.heap.size _ mp0 5 0 rfl rfl rfl Q5.out) rfl ⟨rfl, B5.out⟩
  · rw [if_neg h0] at HDD
    have hne : ((d0 : Int) == 0) = false := by simp; omega
    have HEQ : Hid (#[.int .u64 (d0 : Int), .int .u32 (m.pg : Int), .int .u64 (m.rc : Int), .int .u16 (m.rg : Int), .int .u8 (m.lv : Int), .int .u16 (m.gn : Int), .int .u32 (m.tn : Int)] = (#[.int .u64 (d0 : Int), .int .u32 (d1 : Int), .int .u64 (d2 : Int), .int .u16 (d3 : Int), .int .u8 (at' l 22 : Nat), .int .u16 (d5 : Int), .int .u32 (d6 : Int)] : Array Value)) := Lib.hid (by rw [← HV.out, ← HC.out]; rfl)
    clear h0 q0 q1 q2 q3 q4 q5 q6
    go_wp2_with fail
    rw [HEQ.out]
    refine (HM.out _).mono ?_
    rintro e w5 ⟨rfl, hb⟩
    have M5 := Lib.hid (M4.out.ab hb)
    have Q5 := Lib.hid (Q4.out.ab hb)
    have E5 := Lib.hid (E4.out.ab hb)
    have B5 := Lib.hid (below_tr B4.out hb B4.out.size)
    clear hb M4 Q4 E4 B4 m0 m1 m2 m3 m4 m5 m6 HEQ HM HV
    obtain ⟨q0, q1, q2, q3, q4, q5, q6⟩ := E5.out.cells
    simp only [mp0] at q0 q1 q2 q3 q4 q5 q6
    cases hr : rightB m
    · rw [hr, cond_false] at HDD
      subst HDD
      clear hr
      go_wp2_with (refine wpList_storeC rfl 63 (.tmp 2) (.tmp 50) rfl w.heap.size rfl (mpv mp0) rfl (cs := mpv mp0) (t := 63) Q5.out (szMp _) rfl (mpv_one _) ?_
                   intro w6 hw6
                   have Q6 : Hid (MpB w6 w.heap.size mp0) := Lib.hid (by rw [hw6]; exact CbB.row Q5.out _)
                   have B6 : Hid (Below w.heap.size w w6) := Lib.hid (by rw [hw6]; exact Below.row B5.out (Nat.le_refl _) _)
                   clear hw6)
      exact bodyPost_ret (rdec_results _ w.heap.size _ mp0 5 22 rfl rfl rfl Q6.out) rfl ⟨rfl, B6.out⟩
    · rw [hr, cond_true] at HDD
      have HE := Lib.hid HDD
      have HI2 := HI.out.ab B5.out
      obtain ⟨y, hy, hyb, hyc⟩ := HI2.cell (by decide)
      injection hy with hy
      subst hy
      have HX := Lib.hid hyc
      clear hr HDD HI2 hyb hyc
      go_wp2_with fail
      go_loop [7] (fun v => ∃ i : Nat, 29 ≤ i ∧ i ≤ 224 ∧ nzFrom l (224 - i) i = nzFrom l 195 29 ∧ v = .int .i64 (i : Int)) (fun v => 224 - (intOf v).toNat)
      case atStart => exact ⟨29, by decide, by decide, rfl, rfl⟩
      case round =>
        obtain ⟨i, h29, h224, hnz, rfl⟩ := hrel
        have hi1 : (i : Int) ≤ 224 := by omega
        have NZ := Lib.hid hnz
        have L29 := Lib.hid h29
        clear hnz h29
        by_cases hlt : i < 224
        · have hlt2 : (i : Int) < 224 := by omega
          have hx : w5.cell? (x.add i) = some (.int .u8 (at' l i : Nat)) := HX.out i (by omega)
          have hst : nzFrom l (224 - i) i = if at' l i = 0 then nzFrom l (224 - (i + 1)) (i + 1) else some i := by
            rw [show 224 - i = (224 - (i + 1)) + 1 by omega, nzFrom]
          by_cases hz : at' l i = 0
          · have hz1 : (((at' l i : Nat) : Int) != 0) = false := by rw [hz]; rfl
            rw [if_pos hz] at hst
            have HST := Lib.hid hst
            have HLT := Lib.hid hlt
            generalize at' l i = ai at *
            clear hst hz hlt h224
            go_wp2_with fail
            go_round
            case rel => exact ⟨i + 1, by have := L29.out; omega, HLT.out, by rw [← HST.out]; exact NZ.out, by go_num⟩
            case measure => simp [intOf]; have := HLT.out; omega
          · have hz1 : (((at' l i : Nat) : Int) != 0) = true := by simp [hz]
            rw [if_neg hz] at hst
            have HEE : Hid (D = ⟨mp0, 5, i⟩) := Lib.hid (by
              have h1 := HE.out
              have h2 := NZ.out
              rw [hst] at h2
              rw [← h2] at h1
              exact h1)
            generalize at' l i = ai at *
            clear hst hz hlt h224
            go_wp2_with (refine wpList_storeC rfl 63 (.tmp 2) (.tmp 62) rfl w.heap.size rfl (mpv mp0) rfl (cs := mpv mp0) (t := 63) Q5.out (szMp _) rfl (mpv_one _) ?_
                         intro w6 hw6
                         have Q6 : Hid (MpB w6 w.heap.size mp0) := Lib.hid (by rw [hw6]; exact CbB.row Q5.out _)
                         have B6 : Hid (Below w.heap.size w w6) := Lib.hid (by rw [hw6]; exact Below.row B5.out (Nat.le_refl _) _)
                         clear hw6)
            rw [HEE.out]
            exact bodyPost_ret (rdec_results _ w.heap.size _ mp0 5 i rfl rfl rfl Q6.out) rfl ⟨rfl, B6.out⟩
        · obtain rfl : i = 224 := by omega
          have HEE : Hid (D = ⟨m, 0, 0⟩) := Lib.hid (by
            have h1 := HE.out
            have h2 := NZ.out
            rw [show 224 - 224 = 0 from rfl, nzFrom] at h2
            rw [← h2] at h1
            exact h1)
          clear hlt h224 NZ
          obtain ⟨m0, m1, m2, m3, m4, m5, m6⟩ := M5.out.cells
          go_wp2_with (refine wpList_storeC rfl 63 (.tmp 2) (.tmp 64) rfl w.heap.size rfl (mpv m) rfl (cs := mpv mp0) (t := 63) Q5.out (szMp _) rfl (mpv_one _) ?_
                       intro w6 hw6
                       have Q6 : Hid (MpB w6 w.heap.size m) := Lib.hid (by rw [hw6]; exact CbB.row Q5.out _)
                       have B6 : Hid (Below w.heap.size w w6) := Lib.hid (by rw [hw6]; exact Below.row B5.out (Nat.le_refl _) _)
                       clear hw6)
          rw [HEE.out]
          exact bodyPost_ret (rdec_results _ w.heap.size _ m 0 0 rfl rfl rfl Q6.out) rfl ⟨rfl, B6.out⟩
theorem rdecode_any (A : Option Addr) (n c : Nat) (l : List Nat) (w : World) (hi : IsB w A n c l) :
    Calls Tryz.prog 135 #[.slice A n c] w fun e w' => e = .returned (decV (decP l)) ∧ Below w.heap.size w w' := by
  have hl := hi.len
  by_cases hn : n = 224
  · subst hn
    exact rdecode_ok A c l w hi
  · rw [show decP l = ⟨mp0, 2, 0⟩ from if_neg (by omega)]
    exact rdecode_short A n c w hn
end Go.Proofs.YtakgebbeknfplaaGreat
