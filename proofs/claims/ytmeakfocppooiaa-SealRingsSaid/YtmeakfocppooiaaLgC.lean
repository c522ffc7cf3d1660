/-
  LOGS: Has, Knows, Count: walks.
-/
import Derived.Test.YtmeakfocppooiaaLgA
import Derived.Test.YtmeakfocppooiaaHiC
import Derived.Test.YtmeakfocppooiaaSeJ
namespace Go.Proofs.Ytmeakfocppooiaa
open Go.RowKit
set_option linter.unusedVariables false

def slc (s : Sl) : Array Value := #[.int .u32 (s.l.ten : Int), .int .u8 (s.l.k : Int), .int .u8 (s.l.lv : Int), .int .u32 (s.l.pg : Int), .int .u64 (s.l.cm : Int), .int .u16 (s.l.gn : Int), .string (strOf s.key), .string (strOf s.pay), .string (strOf s.blk)]
set_option maxRecDepth 100000 in
set_option maxHeartbeats 1000000 in
theorem has1_any (s : Sl) (bx : Nat) (A : Option Addr) (n c : Nat) (b : List Nat) (w : World) (hx : CbB w bx 28 #[.slice A n c]) (hi : IsB w A n c b) (hs : Byt s.blk) :
    Calls Try.prog 67 #[.agg (slc s), .pointer (some ⟨bx, 0, none⟩)] w fun e w' => e = .returned (.bool (decide (s.blk = b))) ∧ Below w.heap.size w w' := by
  have ha : Below w.heap.size w (w.alloc (.cells (slc s) 130)) := (Below.refl _ _).alloc (Nat.le_refl _) _
  have hcv := conv_str hi ha
  have hq := str_eq hs hi.2
  have c1 := (hx.ab ha).cell (k := 0) rfl
  have HA := Lib.hid ha
  unfold slc at hcv c1 HA ⊢
  generalize decide (s.blk = b) = q at *
  clear hx hi hs ha
  go_enter Try.func67, Try.ntmps67
  go_wp2_with fail
  go_ret
  exact ⟨rfl, HA.out⟩
theorem slvs_at : ∀ (all : List Sl) (i : Nat) (s : Sl), all[i]? = some s → ∀ (j : Nat) (v : Value), (slc s)[j]? = some v → (slvs all)[i * 9 + j]? = some v
  | [], i, s, h => by simp at h
  | t :: r, 0, s, h => fun j v hv => by
    simp only [List.getElem?_cons_zero, Option.some.injEq] at h
    subst h
    have hj : j < 9 := (Array.getElem?_eq_some_iff.1 hv).1
    rw [slvs, List.getElem?_append_left (by simp [slv, lab]; omega)]
    simpa [slv, slc, lab] using hv
  | t :: r, i + 1, s, h => fun j v hv => by
    have := slvs_at r i s (by simpa using h) j v hv
    rw [slvs, List.getElem?_append_right (by simp [slv, lab]; omega)]
    rw [show (i + 1) * 9 + j - (slv t).length = i * 9 + j by simp [slv, lab]; omega]
    exact this
set_option maxRecDepth 100000 in
set_option maxHeartbeats 2000000 in
theorem hasIdx_any (B : Nat) (v : Value) (all : List Sl) (bx : Nat) (A : Option Addr) (n c : Nat) (b : List Nat) (w : World) (hrow : w.ownsRow B 130 9 v all.length (slvs all)) (hl : all.length ≤ 1000) (hx : CbB w bx 28 #[.slice A n c]) (hi : IsB w A n c b) (hs : ∀ s ∈ all, Byt s.blk) :
    Calls Try.prog 101 #[v, .func (.func 67) #[] #[.pointer (some ⟨bx, 0, none⟩)]] w fun e w' => ∃ z : Int, e = .returned (.int .i64 z) ∧ decide (0 ≤ z) = all.any (fun s => decide (s.blk = b)) ∧ Below w.heap.size w w' := by
  have HH := Lib.hid fun s W (hb : Below w.heap.size w W) (hm : s ∈ all) => has1_any s bx A n c b W (hx.ab hb) (hi.ab hb) (hs s hm)
  have HC : Hid (∀ (i : Nat) (s : Sl), all[i]? = some s → ∃ gb cap, v = .slice (some ⟨gb, 0, none⟩) all.length cap ∧ gb < w.heap.size ∧ ∀ (j : Nat) (u : Value), (slc s)[j]? = some u → w.cell? ⟨gb, i * 9 + j, none⟩ = some u) := Lib.hid fun i s hs' => by
    have hi' := (List.getElem?_eq_some_iff.1 hs').1
    rcases hrow.2 with ⟨_, h0⟩ | ⟨gb, cap, cur, rfl, hg, hh, _⟩
    · omega
    · refine ⟨gb, cap, rfl, (Array.getElem?_eq_some_iff.1 hh).1, fun j u hu => ?_⟩
      have := hrow.cells (g := gb) rfl (i * 9 + j) u (slvs_at all i s hs' j u hu)
      rwa [Addr.add_mid, Nat.zero_add] at this
  obtain ⟨A0, c0, rfl⟩ := row_shape hrow
  obtain ⟨k, hk⟩ : ∃ k, k = all.length := ⟨_, rfl⟩
  rw [← hk] at HC hl
  have HN := Lib.hid hk
  rw [← hk]
  have hkb : (k : Int) ≤ 1000 := by omega
  clear hrow hx hi hs hl hk
  go_enter Try.func101, Try.ntmps101
  go_wp2_with fail
  go_loopw [8] (fun z wr => ∃ i : Nat, i ≤ k ∧ z = .int .i64 (i : Int) ∧ Below w.heap.size w wr ∧ (all.take i).any (fun s => decide (s.blk = b)) = false) (fun z _ => k - (intOf z).toNat)
  case atStart => exact ⟨0, Nat.zero_le _, rfl, Below.refl _ _, rfl⟩
  case round =>
    obtain ⟨i, hi, rfl, hb, hno⟩ := hrel
    have HB := Lib.hid hb
    have HNO := Lib.hid hno
    clear hb hno
    by_cases hlt : i < k
    · obtain ⟨s, hs⟩ : ∃ s, all[i]? = some s := ⟨_, List.getElem?_eq_getElem (by rw [← HN.out]; exact hlt)⟩
      obtain ⟨gb, cap, he, hgl, hcell⟩ := HC.out i s hs
      injection he with he1 _ he3
      subst he1 he3
      have hlti : (i : Int) < (k : Int) := by omega
      have HLT := Lib.hid hlt
      have HS := Lib.hid hs
      have kp : ∀ j u, (slc s)[j]? = some u → wr.cell? ⟨gb, i * 9 + j, none⟩ = some u := fun j u hu => (World.cell?_of_block (HB.out.block _ hgl)).trans (hcell j u hu)
      have x0 := kp 0 _ rfl
      have x1 := kp 1 _ rfl
      have x2 := kp 2 _ rfl
      have x3 := kp 3 _ rfl
      have x4 := kp 4 _ rfl
      have x5 := kp 5 _ rfl
      have x6 := kp 6 _ rfl
      have x7 := kp 7 _ rfl
      have x8 := kp 8 _ rfl
      rw [Nat.add_zero] at x0
      clear kp hcell hgl hlt hs hi
      go_wp2_with fail
      refine (HH.out s _ HB.out (List.mem_of_getElem? HS.out)).mono ?_
      rintro e w2 ⟨rfl, hb2⟩
      have B2 := Lib.hid (below_tr HB.out hb2 HB.out.size)
      clear hb2
      cases hq : decide (s.blk = b)
      · have hstep : Hid ((all.take (i + 1)).any (fun s => decide (s.blk = b)) = false) := Lib.hid (by
          rw [List.take_add_one, HS.out, Option.toList_some, List.any_append, HNO.out]
          simp [hq])
        clear hq
        go_wp2_with fail
        go_roundw
        case rel => exact ⟨i + 1, HLT.out, by go_num, B2.out, hstep.out⟩
        case measure => simp [intOf]; have := HLT.out; omega
      · have hany : Hid (all.any (fun s => decide (s.blk = b)) = true) := Lib.hid (List.any_eq_true.2 ⟨s, List.mem_of_getElem? HS.out, hq⟩)
        clear hq
        go_wp2_with fail
        go_ret
        exact ⟨_, rfl, by rw [hany.out]; simp, B2.out⟩
    · obtain rfl : i = k := by omega
      have hany : Hid (all.any (fun s => decide (s.blk = b)) = false) := Lib.hid (by
        have := HNO.out
        rwa [HN.out, List.take_length] at this)
      clear hlt hi
      go_wp2_with fail
      go_ret
      exact ⟨_, rfl, by rw [hany.out]; rfl, HB.out⟩
set_option maxRecDepth 100000 in
set_option maxHeartbeats 1000000 in
theorem knows1_any (s : Sl) (lx bx : Nat) (m : Lb) (A : Option Addr) (n c : Nat) (b : List Nat) (w : World) (hm : CbB w lx 35 (lab m)) (hx : CbB w bx 28 #[.slice A n c]) (hi : IsB w A n c b) (hs : Byt s.blk) :
    Calls Try.prog 68 #[.agg (slc s), .pointer (some ⟨lx, 0, none⟩), .pointer (some ⟨bx, 0, none⟩)] w fun e w' => e = .returned (.bool (decide (s.l = m) && decide (s.blk = b))) ∧ Below w.heap.size w w' := by
  have ha : Below w.heap.size w (w.alloc (.cells (slc s) 130)) := (Below.refl _ _).alloc (Nat.le_refl _) _
  have hcv := conv_str hi ha
  have hq := str_eq hs hi.2
  have hl := fun W => eq_lab s.l m W
  have c1 := (hx.ab ha).cell (k := 0) rfl
  have hm' := hm.ab ha
  rw [lab_cells] at hm'
  have m0 := hm'.cell (k := 0) rfl
  have m1 := hm'.cell (k := 1) rfl
  have m2 := hm'.cell (k := 2) rfl
  have m3 := hm'.cell (k := 3) rfl
  have m4 := hm'.cell (k := 4) rfl
  have m5 := hm'.cell (k := 5) rfl
  have HA := Lib.hid ha
  unfold slc at hcv c1 m0 m1 m2 m3 m4 m5 HA ⊢
  generalize decide (s.blk = b) = q at *
  generalize decide (s.l = m) = r at *
  clear hx hi hs ha hm hm'
  cases r
  all_goals
    go_enter Try.func68, Try.ntmps68
    go_wp2_with fail
    go_ret
    exact ⟨rfl, HA.out⟩
set_option maxRecDepth 100000 in
set_option maxHeartbeats 2000000 in
theorem knowsIdx_any (B : Nat) (v : Value) (all : List Sl) (lx bx : Nat) (m : Lb) (A : Option Addr) (n c : Nat) (b : List Nat) (w : World) (hrow : w.ownsRow B 130 9 v all.length (slvs all)) (hl : all.length ≤ 1000) (hm : CbB w lx 35 (lab m)) (hx : CbB w bx 28 #[.slice A n c]) (hi : IsB w A n c b) (hs : ∀ s ∈ all, Byt s.blk) :
    Calls Try.prog 101 #[v, .func (.func 68) #[] #[.pointer (some ⟨lx, 0, none⟩), .pointer (some ⟨bx, 0, none⟩)]] w fun e w' => ∃ z : Int, e = .returned (.int .i64 z) ∧ decide (0 ≤ z) = all.any (fun s => (decide (s.l = m) && decide (s.blk = b))) ∧ Below w.heap.size w w' := by
  have HH := Lib.hid fun s W (hb : Below w.heap.size w W) (hms : s ∈ all) => knows1_any s lx bx m A n c b W (hm.ab hb) (hx.ab hb) (hi.ab hb) (hs s hms)
  have HC : Hid (∀ (i : Nat) (s : Sl), all[i]? = some s → ∃ gb cap, v = .slice (some ⟨gb, 0, none⟩) all.length cap ∧ gb < w.heap.size ∧ ∀ (j : Nat) (u : Value), (slc s)[j]? = some u → w.cell? ⟨gb, i * 9 + j, none⟩ = some u) := Lib.hid fun i s hs' => by
    have hi' := (List.getElem?_eq_some_iff.1 hs').1
    rcases hrow.2 with ⟨_, h0⟩ | ⟨gb, cap, cur, rfl, hg, hh, _⟩
    · omega
    · refine ⟨gb, cap, rfl, (Array.getElem?_eq_some_iff.1 hh).1, fun j u hu => ?_⟩
      have := hrow.cells (g := gb) rfl (i * 9 + j) u (slvs_at all i s hs' j u hu)
      rwa [Addr.add_mid, Nat.zero_add] at this
  obtain ⟨A0, c0, rfl⟩ := row_shape hrow
  obtain ⟨k, hk⟩ : ∃ k, k = all.length := ⟨_, rfl⟩
  rw [← hk] at HC hl
  have HN := Lib.hid hk
  rw [← hk]
  have hkb : (k : Int) ≤ 1000 := by omega
  clear hrow hm hx hi hs hl hk
  go_enter Try.func101, Try.ntmps101
  go_wp2_with fail
  go_loopw [8] (fun z wr => ∃ i : Nat, i ≤ k ∧ z = .int .i64 (i : Int) ∧ Below w.heap.size w wr ∧ (all.take i).any (fun s => (decide (s.l = m) && decide (s.blk = b))) = false) (fun z _ => k - (intOf z).toNat)
  case atStart => exact ⟨0, Nat.zero_le _, rfl, Below.refl _ _, rfl⟩
  case round =>
    obtain ⟨i, hi, rfl, hb, hno⟩ := hrel
    have HB := Lib.hid hb
    have HNO := Lib.hid hno
    clear hb hno
    by_cases hlt : i < k
    · obtain ⟨s, hs⟩ : ∃ s, all[i]? = some s := ⟨_, List.getElem?_eq_getElem (by rw [← HN.out]; exact hlt)⟩
      obtain ⟨gb, cap, he, hgl, hcell⟩ := HC.out i s hs
      injection he with he1 _ he3
      subst he1 he3
      have hlti : (i : Int) < (k : Int) := by omega
      have HLT := Lib.hid hlt
      have HS := Lib.hid hs
      have kp : ∀ j u, (slc s)[j]? = some u → wr.cell? ⟨gb, i * 9 + j, none⟩ = some u := fun j u hu => (World.cell?_of_block (HB.out.block _ hgl)).trans (hcell j u hu)
      have x0 := kp 0 _ rfl
      have x1 := kp 1 _ rfl
      have x2 := kp 2 _ rfl
      have x3 := kp 3 _ rfl
      have x4 := kp 4 _ rfl
      have x5 := kp 5 _ rfl
      have x6 := kp 6 _ rfl
      have x7 := kp 7 _ rfl
      have x8 := kp 8 _ rfl
      rw [Nat.add_zero] at x0
      clear kp hcell hgl hlt hs hi
      go_wp2_with fail
      refine (HH.out s _ HB.out (List.mem_of_getElem? HS.out)).mono ?_
      rintro e w2 ⟨rfl, hb2⟩
      have B2 := Lib.hid (below_tr HB.out hb2 HB.out.size)
      clear hb2
      cases hq : (decide (s.l = m) && decide (s.blk = b))
      · have hstep : Hid ((all.take (i + 1)).any (fun s => (decide (s.l = m) && decide (s.blk = b))) = false) := Lib.hid (by
          rw [List.take_add_one, HS.out, Option.toList_some, List.any_append, HNO.out]
          simp [hq])
        clear hq
        go_wp2_with fail
        go_roundw
        case rel => exact ⟨i + 1, HLT.out, by go_num, B2.out, hstep.out⟩
        case measure => simp [intOf]; have := HLT.out; omega
      · have hany : Hid (all.any (fun s => (decide (s.l = m) && decide (s.blk = b))) = true) := Lib.hid (List.any_eq_true.2 ⟨s, List.mem_of_getElem? HS.out, hq⟩)
        clear hq
        go_wp2_with fail
        go_ret
        exact ⟨_, rfl, by rw [hany.out]; simp, B2.out⟩
    · obtain rfl : i = k := by omega
      have hany : Hid (all.any (fun s => (decide (s.l = m) && decide (s.blk = b))) = false) := Lib.hid (by
        have := HNO.out
        rwa [HN.out, List.take_length] at this)
      clear hlt hi
      go_wp2_with fail
      go_ret
      exact ⟨_, rfl, by rw [hany.out]; rfl, HB.out⟩
set_option maxRecDepth 100000 in
theorem hasIn_any (B : Nat) (v : Value) (all : List Sl) (bx : Nat) (A : Option Addr) (n c : Nat) (b : List Nat) (w : World) (hrow : w.ownsRow B 130 9 v all.length (slvs all)) (hl : all.length ≤ 1000)  (hx : CbB w bx 28 #[.slice A n c]) (hi : IsB w A n c b) (hs : ∀ s ∈ all, Byt s.blk) :
    Calls Try.prog 66 #[v, .func (.func 67) #[] #[.pointer (some ⟨bx, 0, none⟩)]] w fun e w' => e = .returned (.bool (all.any (fun s => decide (s.blk = b)))) ∧ Below w.heap.size w w' := by
  have HI := Lib.hid (hasIdx_any B v all bx A n c b w hrow hl hx hi hs)
  generalize all.any (fun s => decide (s.blk = b)) = q at *
  obtain ⟨A0, c0, rfl⟩ := row_shape hrow
  clear hrow hx hi hs hl
  go_enter Try.func66, Try.ntmps66
  go_wp2_with fail
  refine HI.out.mono ?_
  rintro e w1 ⟨z, rfl, hz, hb⟩
  have HB := Lib.hid hb
  clear hb
  go_wp2_with fail
  go_ret
  exact ⟨by simp, HB.out⟩
set_option maxRecDepth 100000 in
theorem knowsIn_any (B : Nat) (v : Value) (all : List Sl) (lx bx : Nat) (m : Lb) (A : Option Addr) (n c : Nat) (b : List Nat) (w : World) (hrow : w.ownsRow B 130 9 v all.length (slvs all)) (hl : all.length ≤ 1000) (hm : CbB w lx 35 (lab m)) (hx : CbB w bx 28 #[.slice A n c]) (hi : IsB w A n c b) (hs : ∀ s ∈ all, Byt s.blk) :
    Calls Try.prog 66 #[v, .func (.func 68) #[] #[.pointer (some ⟨lx, 0, none⟩), .pointer (some ⟨bx, 0, none⟩)]] w fun e w' => e = .returned (.bool (all.any (fun s => (decide (s.l = m) && decide (s.blk = b))))) ∧ Below w.heap.size w w' := by
  have HI := Lib.hid (knowsIdx_any B v all lx bx m A n c b w hrow hl hm hx hi hs)
  generalize all.any (fun s => (decide (s.l = m) && decide (s.blk = b))) = q at *
  obtain ⟨A0, c0, rfl⟩ := row_shape hrow
  clear hrow hm hx hi hs hl
  go_enter Try.func66, Try.ntmps66
  go_wp2_with fail
  refine HI.out.mono ?_
  rintro e w1 ⟨z, rfl, hz, hb⟩
  have HB := Lib.hid hb
  clear hb
  go_wp2_with fail
  go_ret
  exact ⟨by simp, HB.out⟩
set_option maxRecDepth 100000 in
set_option maxHeartbeats 1000000 in
theorem count_any (B g : Nat) (all : List Sl) (w : World) (h : LgB w B g all) : Calls Try.prog 20 #[.pointer (some ⟨g, 0, none⟩)] w fun e w' => e = .returned (.int .i64 (all.length : Int)) ∧ w = w' := by
  obtain ⟨v, h1, h2⟩ := h.box
  have c0 := h1.cell (k := 0) rfl
  obtain ⟨A0, k0, rfl⟩ := row_shape h2
  clear h h1 h2
  go_enter Try.func20, Try.ntmps20
  go_wp2_with fail
  go_ret
  exact ⟨rfl, rfl⟩
set_option maxRecDepth 100000 in
set_option maxHeartbeats 1000000 in
theorem has_any (B g : Nat) (all : List Sl) (A : Option Addr) (n c : Nat) (b : List Nat) (w : World) (h : LgB w B g all) (hl : all.length ≤ 1000) (hi : IsB w A n c b) (hs : ∀ s ∈ all, Byt s.blk) :
    Calls Try.prog 21 #[.pointer (some ⟨g, 0, none⟩), .slice A n c] w fun e w' => e = .returned (.bool (all.any (fun s => decide (s.blk = b)))) ∧ Below w.heap.size w w' := by
  have ha : Below w.heap.size w (w.alloc (.cells #[.slice A n c] 28)) := (Below.refl _ _).alloc (Nat.le_refl _) _
  obtain ⟨v, h1, h2⟩ := (h.ab ha).box
  have c0 := h1.cell (k := 0) rfl
  have HI := Lib.hid (hasIn_any B v all w.heap.size A n c b _ h2 hl (CbB.new w _ _) (hi.ab ha) hs)
  have HA := Lib.hid ha
  obtain ⟨A0, k0, rfl⟩ := row_shape h2
  generalize all.any (fun s => decide (s.blk = b)) = q at *
  clear h h1 h2 hl hi hs ha
  go_enter Try.func21, Try.ntmps21
  go_wp2_with fail
  refine HI.out.mono ?_
  rintro e w1 ⟨rfl, hb⟩
  have HB := Lib.hid (below_tr HA.out hb HA.out.size)
  clear hb
  go_wp2_with fail
  go_ret
  exact ⟨rfl, HB.out⟩
set_option maxRecDepth 100000 in
set_option maxHeartbeats 1000000 in
theorem knows_any (B g : Nat) (all : List Sl) (m : Lb) (A : Option Addr) (n c : Nat) (b : List Nat) (w : World) (h : LgB w B g all) (hl : all.length ≤ 1000) (hi : IsB w A n c b) (hs : ∀ s ∈ all, Byt s.blk) :
    Calls Try.prog 22 #[.pointer (some ⟨g, 0, none⟩), .agg (lab m), .slice A n c] w fun e w' => e = .returned (.bool (all.any (fun s => (decide (s.l = m) && decide (s.blk = b))))) ∧ Below w.heap.size w w' := by
  have ha1 : Below w.heap.size w (w.alloc (.cells (lab m) 35)) := (Below.refl _ _).alloc (Nat.le_refl _) _
  have ha : Below w.heap.size w ((w.alloc (.cells (lab m) 35)).alloc (.cells #[.slice A n c] 28)) := ha1.alloc ha1.size _
  obtain ⟨v, h1, h2⟩ := (h.ab ha).box
  have c0 := h1.cell (k := 0) rfl
  have hx : CbB ((w.alloc (.cells (lab m) 35)).alloc (.cells #[.slice A n c] 28)) (w.heap.size + 1) 28 #[.slice A n c] := by
    have := CbB.new (w.alloc (.cells (lab m) 35)) 28 #[.slice A n c]
    simpa using this
  have HI := Lib.hid (knowsIn_any B v all w.heap.size (w.heap.size + 1) m A n c b _ h2 hl ((CbB.new w _ _).ab ((Below.refl _ _).alloc (Nat.le_refl _) _)) hx (hi.ab ha) hs)
  have HA := Lib.hid ha
  obtain ⟨A0, k0, rfl⟩ := row_shape h2
  generalize all.any (fun s => (decide (s.l = m) && decide (s.blk = b))) = q at *
  rw [lab_cells] at HI HA c0 ⊢
  clear h h1 h2 hl hi hs ha ha1 hx
  go_enter Try.func22, Try.ntmps22
  go_wp2_with fail
  refine HI.out.mono ?_
  rintro e w1 ⟨rfl, hb⟩
  have HB := Lib.hid (below_tr HA.out hb HA.out.size)
  clear hb
  go_wp2_with fail
  go_ret
  exact ⟨rfl, HB.out⟩
end Go.Proofs.Ytmeakfocppooiaa
