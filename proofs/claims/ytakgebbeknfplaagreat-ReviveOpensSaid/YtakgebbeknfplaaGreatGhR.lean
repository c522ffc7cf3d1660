/-
  WALKS: the reference's Mul (ref04).
-/
import Derived.Test.YtakgebbeknfplaaGreatGcB
namespace Go.Proofs.YtakgebbeknfplaaGreat
open Go.RowKit
set_option linter.unusedVariables false

/-- integers as cells -/
def its (l : List Nat) : Array Value := (l.map (fun n : Nat => Value.int .i64 (n : Int))).toArray
def Pk (w : World) (b : Nat) (l : List Nat) : Prop := w.heap[b]? = some (.cells (its l) 449 (0, 0))
section
variable {w w' : World} {b : Nat} {l : List Nat}
theorem its_get (l : List Nat) (k : Nat) (h : k < l.length) : (its l)[k]? = some (.int .i64 (at' l k : Nat)) := by simp [its, at', List.getElem?_eq_getElem h]
theorem its_set (l : List Nat) (k n : Nat) : (its l).setIfInBounds k (.int .i64 (n : Int)) = its (l.set k n) := by simp [its, List.map_set]
theorem Pk.lt (h : Pk w b l) : b < w.heap.size := lt_of_block h
theorem Pk.cell (h : Pk w b l) {k : Nat} (hk : k < l.length) : w.cell? ⟨b, k, none⟩ = some (.int .i64 (at' l k : Nat)) := by
  rw [cell_of_row w b k _ _ (0, 0) h, its_get l k hk]
theorem Pk.free (h : Pk w b l) (k : Nat) : w.frozen? ⟨b, k, none⟩ = false := frozen_of_row w b k _ _ h
theorem Pk.set (h : Pk w b l) (k n : Nat) : Pk (w.setCell ⟨b, k, none⟩ (.int .i64 (n : Int))) b (l.set k n) := by
  have := heap_setCell_same w b k _ _ (.int .i64 (n : Int)) h
  rw [its_set] at this
  exact this
theorem Pk.far (h : Pk w b l) {c k : Nat} (hne : b ≠ c) (u : Value) : Pk (w.setCell ⟨c, k, none⟩ u) b l := (Below.heap_setCell w ⟨c, k, none⟩ u b hne).trans h
theorem Pk.rowFar (h : Pk w b l) {c : Nat} (hne : b ≠ c) (cs : Array Value) : Pk (w.setRow c cs) b l := (setRow_other w c b cs hne).trans h
theorem Pk.alloc (h : Pk w b l) (o : Obj) : Pk (w.alloc o) b l := (Below.heap_alloc w o b h.lt).trans h
theorem Pk.drew (h : Pk w b l) : Pk w.drew b l := h
theorem Pk.ab (h : Pk w b l) (hb : Below w.heap.size w w') : Pk w' b l := (hb.block b h.lt).trans h
end
theorem bits_xor_i64' (a b : Nat) (ha : a ≤ 1) (hb : b ≤ 1) : bits .xor .i64 (a : Int) (b : Int) = ((a ^^^ b : Nat) : Int) := bits_xor_i64 a b (by omega) (by omega)
theorem wpList_setP {ops : Array Oper} {rest : List Oper} {o : Oper} {a : Act} {w : World} {Q : Exit → Act → World → Prop} (hgd : o.guard = none) (x y : Operand) (ho : o.op = .store 3 x y)
    (g k n : Nat) (hx : a.eval x = .pointer (some ⟨g, k, none⟩)) (hy : a.eval y = .int .i64 (n : Int)) {l : List Nat} (hg : Pk w g l) (hk : k < l.length)
    (h : ∀ w2, w2 = w.setCell ⟨g, k, none⟩ (.int .i64 (n : Int)) → wpList Tryz.prog ops Q rest (a.put o.dst undef) w2) : wpList Tryz.prog ops Q (o :: rest) a w := by
  have hfr := hg.free k
  have hcl := hg.cell hk
  have hu := Tryz.underlying3
  refine wpList_plain hgd fun K hK => ?_
  have hK := hK _ _ (h _ rfl)
  unfold Oper.wp execOp
  simp only [ho, hx, hy]
  go_simp
  exact hK
/-- what stays in all the loops: both arguments, the result's block -/
structure MuSt (B : Nat) (w0 w : World) (x y l : List Nat) : Prop where
  xb : Bk w B 365 x
  yb : Bk w (B + 1) 365 y
  rb : Bk w (B + 1 + 1) 365 z16
  pb : Pk w (B + 1 + 1 + 1) l
  below : Below B w0 w
  len : l.length = 255
  bin : Bin l
section
variable {B : Nat} {w0 w w' : World} {x y l : List Nat}
theorem MuSt.ab (h : MuSt B w0 w x y l) (hB : B ≤ w.heap.size) (hb : Below w.heap.size w w') : MuSt B w0 w' x y l := ⟨h.xb.ab hb, h.yb.ab hb, h.rb.ab hb, h.pb.ab hb, below_tr h.below hb hB, h.len, h.bin⟩
theorem MuSt.drew (h : MuSt B w0 w x y l) : MuSt B w0 w.drew x y l := ⟨h.xb, h.yb, h.rb, h.pb, h.below.drew, h.len, h.bin⟩
theorem MuSt.size (h : MuSt B w0 w x y l) : B ≤ w.heap.size := Nat.le_of_lt h.xb.lt
theorem MuSt.set (h : MuSt B w0 w x y l) (k n : Nat) (hb : Bin (l.set k n)) : MuSt B w0 (w.setCell ⟨B + 1 + 1 + 1, k, none⟩ (.int .i64 (n : Int))) x y (l.set k n) :=
  ⟨h.xb.far (by omega) _, h.yb.far (by omega) _, h.rb.far (by omega) _, h.pb.set k n, h.below.setCell (by show B ≤ B + 1 + 1 + 1; omega) _, by rw [List.length_set]; exact h.len, hb⟩
end
set_option maxRecDepth 100000 in
theorem zero240 : Tryz.zeroCells449 = its (zeros 255) := by rfl
theorem MuSt.start (w : World) (x y : List Nat) : MuSt w.heap.size w ((((w.alloc (.cells (bts x) 365)).alloc (.cells (bts y) 365)).alloc (.cells (bts z16) 365)).alloc (.cells (its (zeros 255)) 449)) x y (zeros 255) := by
  refine ⟨(((Bk.newAt _ x rfl).alloc _).alloc _).alloc _, ((Bk.newAt _ y (by simp)).alloc _).alloc _, (Bk.newAt _ z16 (by simp)).alloc _, ?_, ((((Below.refl _ _).alloc (Nat.le_refl _) _).alloc (Nat.le_of_lt (by simp)) _).alloc (by simp; omega) _).alloc (by simp; omega) _, zeros_len 255, bin_zeros 255⟩
  have e : w.heap.size + 1 + 1 + 1 = (((w.alloc (.cells (bts x) 365)).alloc (.cells (bts y) 365)).alloc (.cells (bts z16) 365)).heap.size := by simp
  rw [e]
  exact heap_alloc_new _ _
def MuA (B : Nat) (w0 : World) (x y : List Nat) (v : Nat) (w : World) : Prop := ∃ l, MuSt B w0 w x y l ∧ vl l = v

set_option maxRecDepth 100000 in
set_option maxHeartbeats 4000000 in
theorem mul4_any (x y : List Nat) (hx : Byt x) (lx : x.length = 16) (hy : Byt y) (ly : y.length = 16) (w : World) :
    Calls Tryz.prog 330 #[.agg (bts x), .agg (bts y)] w fun e w' => e = .returned (.agg (bts (digB (hmul (numB x) (numB y)) 16))) ∧ Below w.heap.size w w' := by
  have S0 := Lib.hid (MuSt.start w x y)
  have HV0 : Hid (vl (zeros 255) = mid (numB x) (numB y) 0) := Lib.hid (vl_zeros 255)
  have LX := Lib.hid lx
  have LY := Lib.hid ly
  have LTY := Lib.hid (numB_lt16 hy ly)
  clear lx ly
  go_enter Tryz.func330, Tryz.ntmps330
  go_wp2_with fail
  go_loopw [6, 7] (fun i _ wr => ∃ n : Nat, n ≤ 128 ∧ i = .int .i64 n ∧ MuA w.heap.size w x y (mid (numB x) (numB y) n) wr) (fun i _ _ => 128 - (intOf i).toNat)
  case atStart => exact ⟨0, by omega, rfl, _, S0.out, HV0.out⟩
  case round =>
    obtain ⟨n, hn, rfl, l, hs, hv⟩ := hrel
    clear S0 HV0
    by_cases hlt : n < 128
    · have hni : (n : Int) < 128 := by omega
      have hbt := fun W => bit4_any x hx LX.out n hlt W
      have hbq := bitB_eq hx LX.out hlt
      have hb1 := bitB_le x n
      generalize bitB x n = bx at *
      have HS := Lib.hid hs
      have HV := Lib.hid hv
      have HBT := Lib.hid hbt
      have HBQ := Lib.hid hbq
      clear hs hv hbt hbq
      by_cases hb0 : bx = 0
      · have hz : ((bx : Int) == 0) = true := by rw [hb0]; rfl
        have HB0 := Lib.hid hb0
        clear hb0
        go_wp2_with (refine wpList_loadB (l := x) (o := ⟨some 15, _, _, _, _, _⟩) rfl 365 (.tmp 2) rfl w.heap.size rfl (t := 365) ?_ Tryz.underlying365 (by rw [LX.out]; exact sz16) ?_; exact HS.out.xb)
        refine (HBT.out _).mono ?_
        rintro e w2 ⟨rfl, hb2⟩
        have HS2 := Lib.hid (HS.out.ab HS.out.size hb2)
        clear hb2 HS
        go_wp2_with fail
        go_roundw
        case rel => exact ⟨n + 1, by omega, by go_num, l, HS2.out, by rw [HV.out, mid_step, ← HBQ.out, HB0.out]; exact (Nat.xor_zero _).symm⟩
        case measure => simp [intOf]; omega
      · have hb1' : bx = 1 := by omega
        have hz : ((bx : Int) == 0) = false := by rw [hb1']; rfl
        have HB1 := Lib.hid hb1'
        clear hb0 hb1'
        go_wp2_with (refine wpList_loadB (l := x) (o := ⟨some 15, _, _, _, _, _⟩) rfl 365 (.tmp 2) rfl w.heap.size rfl (t := 365) ?_ Tryz.underlying365 (by rw [LX.out]; exact sz16) ?_; exact HS.out.xb)
        refine (HBT.out _).mono ?_
        rintro e w2 ⟨rfl, hb2⟩
        have HS2 := Lib.hid (HS.out.ab HS.out.size hb2)
        clear hb2 HS
        go_wp2_with fail
        go_loopw [7] (fun j wq => ∃ k : Nat, k ≤ 128 ∧ j = .int .i64 k ∧ MuA w.heap.size w x y (mid (numB x) (numB y) n ^^^ rowY (numB y) n k) wq) (fun j _ => 128 - (intOf j).toNat)
        case atStart => exact ⟨0, by omega, rfl, l, HS2.out, by rw [HV.out]; exact (Nat.xor_zero _).symm⟩
        case round =>
          obtain ⟨k, hk, rfl, lq, hs, hv⟩ := hrel
          clear HS2
          by_cases hlk : k < 128
          · have hki : (k : Int) < 128 := by omega
            have hbt2 := fun W => bit4_any y hy LY.out k hlk W
            have hbq2 := bitB_eq hy LY.out hlk
            have hb2 := bitB_le y k
            have ha0 := hs.bin (n + k)
            have hvt := vl_turn hs.len hs.bin (k := n + k) (d := bitB y k) (by omega) hb2
            have hwc : ∀ w', AbW wr.drew w' → w'.cell? ⟨w.heap.size + 1 + 1 + 1, n + k, none⟩ = some (.int .i64 (at' lq (n + k) : Nat)) := fun w' h => (hs.drew.ab hs.size h).pb.cell (by rw [hs.len]; omega)
            generalize bitB y k = bk at *
            generalize at' lq (n + k) = a0 at *
            have hxo := bits_xor_i64' a0 bk ha0 hb2
            have hw1 : IntKind.i64.wrap ((n : Int) + (k : Int)) = (n : Int) + (k : Int) := IntWalk.i64_in _ (by omega)
            have hw2 : (0 : Int) ≤ (n : Int) + (k : Int) := by omega
            have hw3 : ((n : Int) + (k : Int)).toNat = n + k := by omega
            have hw4 : (n : Int) + (k : Int) < 255 := by omega
            have HS3 := Lib.hid hs
            have HV3 := Lib.hid hv
            have HBT2 := Lib.hid hbt2
            have HBQ2 := Lib.hid hbq2
            have HVT := Lib.hid hvt
            have HWC := Lib.hid hwc
            clear hs hv hbt2 hbq2 hvt hwc
            go_wp2_with fail
            refine wp_quiet_tail 13 (AbW wr.drew) (AbW.refl _) (by kernel_rfl) (by kernel_rfl) ?_
            simp only [List.take_succ_cons, List.take_zero, List.drop_succ_cons, List.drop_zero]
            refine quiet_value (v := ?qv0) (by rfl) ?qh0 ?qk0
            case qh0 => (intro w' hw'; have hwc := HWC.out w' hw'; go_simp; rfl)
            simp only [Act.put, List.setIfInBounds_toArray, List.set_cons_zero, List.set_cons_succ]
            refine quiet_value (v := ?qv1) (by rfl) ?qh1 ?qk1
            case qh1 => (intro w' hw'; have hwc := HWC.out w' hw'; go_simp; rfl)
            simp only [Act.put, List.setIfInBounds_toArray, List.set_cons_zero, List.set_cons_succ]
            refine quiet_value (v := ?qv2) (by rfl) ?qh2 ?qk2
            case qh2 => (intro w' hw'; have hwc := HWC.out w' hw'; go_simp; rfl)
            simp only [Act.put, List.setIfInBounds_toArray, List.set_cons_zero, List.set_cons_succ]
            refine quiet_value (v := ?qv3) (by rfl) ?qh3 ?qk3
            case qh3 => (intro w' hw'; have hwc := HWC.out w' hw'; go_simp; rfl)
            simp only [Act.put, List.setIfInBounds_toArray, List.set_cons_zero, List.set_cons_succ]
            refine quiet_value (v := ?qv4) (by rfl) ?qh4 ?qk4
            case qh4 => (intro w' hw'; have hwc := HWC.out w' hw'; go_simp; rfl)
            simp only [Act.put, List.setIfInBounds_toArray, List.set_cons_zero, List.set_cons_succ]
            refine quiet_value (v := ?qv5) (by rfl) ?qh5 ?qk5
            case qh5 => (intro w' hw'; have hwc := HWC.out w' hw'; go_simp; rfl)
            simp only [Act.put, List.setIfInBounds_toArray, List.set_cons_zero, List.set_cons_succ]
            refine quiet_value (v := ?qv6) (by rfl) ?qh6 ?qk6
            case qh6 => (intro w' hw'; have hwc := HWC.out w' hw'; go_simp; rfl)
            simp only [Act.put, List.setIfInBounds_toArray, List.set_cons_zero, List.set_cons_succ]
            refine quiet_value (v := ?qv7) (by rfl) ?qh7 ?qk7
            case qh7 => (intro w' hw'; have hwc := HWC.out w' hw'; go_simp; rfl)
            simp only [Act.put, List.setIfInBounds_toArray, List.set_cons_zero, List.set_cons_succ]
            refine quiet_loadB (l := y) (t := 365) (by rfl) 365 (.tmp 3) rfl (w.heap.size + 1) rfl (fun w' h => (HS3.out.drew.ab HS3.out.size h).yb) Tryz.underlying365 (by rw [LY.out]; exact sz16) ?_
            simp only [Act.put, List.setIfInBounds_toArray, List.set_cons_zero, List.set_cons_succ]
            refine quiet_value (v := ?qv9) (by rfl) ?qh9 ?qk9
            case qh9 => (intro w' hw'; have hwc := HWC.out w' hw'; go_simp; rfl)
            simp only [Act.put, List.setIfInBounds_toArray, List.set_cons_zero, List.set_cons_succ]
            refine quiet_call (v := .int .i64 (bk : Int)) (f := 349) (args := #[.agg (bts y), .int .i64 (k : Int)]) (by rfl) (fun w' => by go_simp) (fun w' h => (HBT2.out w').mono fun e w'' hh => ⟨hh.1, AbW.call h hh.2⟩) ?_
            simp only [Act.put, List.setIfInBounds_toArray, List.set_cons_zero, List.set_cons_succ]
            refine quiet_value (v := ?qv11) (by rfl) ?qh11 ?qk11
            case qh11 => (intro w' hw'; have hwc := HWC.out w' hw'; go_simp; rfl)
            simp only [Act.put, List.setIfInBounds_toArray, List.set_cons_zero, List.set_cons_succ]
            refine quiet_value (v := ?qv12) (by rfl) ?qh12 ?qk12
            case qh12 => (intro w' hw'; have hwc := HWC.out w' hw'; go_simp; rfl)
            simp only [Act.put, List.setIfInBounds_toArray, List.set_cons_zero, List.set_cons_succ]
            refine wpQuiet_nil ?_
            intro w5 h5
            have hc5 := HWC.out w5 h5
            have HS5 := Lib.hid (HS3.out.drew.ab HS3.out.size h5)
            have hf5 := HS5.out.pb.free (n + k)
            clear h5 HWC hw1 hw3
            go_wp2_with fail
            go_roundw
            case rel => exact ⟨k + 1, by omega, by go_num, lq.set (n + k) (a0 ^^^ bk), HS5.out.set (n + k) (a0 ^^^ bk) HVT.out.2, by rw [HVT.out.1, HV3.out, HBQ2.out, rowY_step, Nat.xor_assoc]⟩
            case measure => simp [intOf]; omega
          · obtain rfl : k = 128 := by omega
            rw [rowY_all _ _ LTY.out] at hv
            have HS3 := Lib.hid hs
            have HV3 := Lib.hid hv
            clear hs hv
            go_wp2_with fail
            go_roundw
            case rel => exact ⟨n + 1, by omega, by go_num, lq, HS3.out, by rw [HV3.out, mid_step, ← HBQ.out, HB1.out]; rfl⟩
            case measure => simp [intOf]; omega
    · obtain rfl : n = 128 := by omega
      have hv' : vl l = hmul (numB x) (numB y) := hv
      have HS := Lib.hid hs
      have HV := Lib.hid hv'
      clear hs hv hv'
      generalize hVE : hmul (numB x) (numB y) = V at *
      have HVE := Lib.hid hVE
      clear hVE
      go_wp2_with fail
      go_loopw [8] (fun i wr => ∃ m : Nat, 127 ≤ m ∧ m ≤ 254 ∧ i = .int .i64 (m : Int) ∧ ∃ l, MuSt w.heap.size w wr x y l ∧ vl l = V ∧ ∀ q, m < q → q < 255 → at' l q = 0) (fun i _ => (intOf i).toNat)
      case atStart => exact ⟨254, by omega, by omega, rfl, l, HS.out, HV.out, fun q h1 h2 => by omega⟩
      case round =>
        obtain ⟨m, hm1, hm2, rfl, l1, hs, hv, h0⟩ := hrel
        by_cases hlt : 128 ≤ m
        · have hge : (128 : Int) ≤ (m : Int) := by omega
          have hmi : (m : Int) ≤ 254 := by omega
          have cm := hs.pb.cell (k := m) (by rw [hs.len]; omega)
          have hb := hs.bin m
          by_cases h1 : at' l1 m = 1
          · rw [h1] at cm
            have hfv := fall_vl hs.len hs.bin (i := m) (by omega) (by omega) h1
            have hfz := fun k hk => fall_gt hs.len (i := m) (k := k) (by omega) (by omega) hk
            obtain ⟨a, ha⟩ : ∃ a, a = l1.set m 0 := ⟨_, rfl⟩
            obtain ⟨b, hbb⟩ : ∃ b, b = a.set (m - 128) (at' a (m - 128) ^^^ 1) := ⟨_, rfl⟩
            obtain ⟨c, hcc⟩ : ∃ c, c = b.set (m - 127) (at' b (m - 127) ^^^ 1) := ⟨_, rfl⟩
            obtain ⟨d, hdd⟩ : ∃ d, d = c.set (m - 126) (at' c (m - 126) ^^^ 1) := ⟨_, rfl⟩
            obtain ⟨e, hee⟩ : ∃ e, e = d.set (m - 121) (at' d (m - 121) ^^^ 1) := ⟨_, rfl⟩
            have hfall : fall l1 m = e := by rw [hee, hdd, hcc, hbb, ha]; rfl
            have ba : Bin a := by rw [ha]; exact (vl_clear hs.len hs.bin (by omega) h1).2
            have la : a.length = 255 := by rw [ha, List.length_set]; exact hs.len
            have bb : Bin b := by rw [hbb]; exact (vl_turn la ba (k := m - 128) (d := 1) (by omega) (by omega)).2
            have lb : b.length = 255 := by rw [hbb, List.length_set]; exact la
            have bc : Bin c := by rw [hcc]; exact (vl_turn lb bb (k := m - 127) (d := 1) (by omega) (by omega)).2
            have lc : c.length = 255 := by rw [hcc, List.length_set]; exact lb
            have bd : Bin d := by rw [hdd]; exact (vl_turn lc bc (k := m - 126) (d := 1) (by omega) (by omega)).2
            have ld : d.length = 255 := by rw [hdd, List.length_set]; exact lc
            have be : Bin e := by rw [hee]; exact (vl_turn ld bd (k := m - 121) (d := 1) (by omega) (by omega)).2
            rw [hfall] at hfv hfz
            have hva := ba (m - 128)
            have hvb := bb (m - 127)
            have hvc := bc (m - 126)
            have hvd := bd (m - 121)
            generalize hxa : at' a (m - 128) = va at *
            generalize hxb : at' b (m - 127) = vb at *
            generalize hxc : at' c (m - 126) = vc at *
            generalize hxd : at' d (m - 121) = vd at *
            have xa : bits .xor .i64 (va : Int) 1 = ((va ^^^ 1 : Nat) : Int) := bits_xor_i64' va 1 hva (by omega)
            have xb : bits .xor .i64 (vb : Int) 1 = ((vb ^^^ 1 : Nat) : Int) := bits_xor_i64' vb 1 hvb (by omega)
            have xc : bits .xor .i64 (vc : Int) 1 = ((vc ^^^ 1 : Nat) : Int) := bits_xor_i64' vc 1 hvc (by omega)
            have xd : bits .xor .i64 (vd : Int) 1 = ((vd ^^^ 1 : Nat) : Int) := bits_xor_i64' vd 1 hvd (by omega)
            have t1 : ((m : Int) - 128).toNat = m - 128 := by omega
            have t2 : ((m : Int) - 127).toNat = m - 127 := by omega
            have t3 : ((m : Int) - 126).toNat = m - 126 := by omega
            have t4 : ((m : Int) - 121).toNat = m - 121 := by omega
            have HS2 := Lib.hid hs
            have HV2 := Lib.hid hv
            have H0 := Lib.hid h0
            have HFV := Lib.hid hfv
            have HFZ := Lib.hid hfz
            have EA := Lib.hid ha
            have EB := Lib.hid hbb
            have EC := Lib.hid hcc
            have ED := Lib.hid hdd
            have EE := Lib.hid hee
            have BA := Lib.hid ba
            have BB := Lib.hid bb
            have BC := Lib.hid bc
            have BD := Lib.hid bd
            have BE := Lib.hid be
            have LA := Lib.hid la
            have LB := Lib.hid lb
            have LC2 := Lib.hid lc
            have LD := Lib.hid ld
            have XA := Lib.hid hxa
            have XB := Lib.hid hxb
            have XC := Lib.hid hxc
            have XD := Lib.hid hxd
            clear hs hv h0 hfv hfz ha hbb hcc hdd hee ba bb bc bd be la lb lc ld hxa hxb hxc hxd hfall hva hvb hvc hvd h1 hb
            go_wp2_with (first
              | ((with_reducible refine wpList_setP (l := l1) (o := ⟨none, .store _ (.tmp 45) _, _, _, _, _⟩) rfl (.tmp 45) _ rfl (w.heap.size + 1 + 1 + 1) m 0 ?_ ?_ ?_ ?_ ?_)
                 · rfl
                 · rfl
                 · exact HS2.out.pb
                 · (rw [HS2.out.len]; omega)
                 intro q0 hq0
                 have P0 : Hid (MuSt w.heap.size w q0 x y a) := Lib.hid (by rw [hq0, EA.out]; exact (HS2.out).set m 0 (by rw [← EA.out]; exact BA.out))
                 have cc0 : q0.cell? ⟨w.heap.size + 1 + 1 + 1, m - 128, none⟩ = some (.int .i64 (va : Int)) := by rw [← XA.out]; exact P0.out.pb.cell (by rw [P0.out.len]; omega)
                 clear hq0)
              | ((with_reducible refine wpList_setP (l := a) (o := ⟨none, .store _ (.tmp 53) _, _, _, _, _⟩) rfl (.tmp 53) _ rfl (w.heap.size + 1 + 1 + 1) (m - 128) (va ^^^ 1) ?_ ?_ ?_ ?_ ?_)
                 · rfl
                 · rfl
                 · exact P0.out.pb
                 · (rw [LA.out]; omega)
                 intro q1 hq1
                 have P1 : Hid (MuSt w.heap.size w q1 x y b) := Lib.hid (by rw [hq1, EB.out]; exact (P0.out).set (m - 128) (va ^^^ 1) (by have := BB.out; rw [EB.out] at this; exact this))
                 have cc1 : q1.cell? ⟨w.heap.size + 1 + 1 + 1, m - 127, none⟩ = some (.int .i64 (vb : Int)) := by rw [← XB.out]; exact P1.out.pb.cell (by rw [P1.out.len]; omega)
                 clear hq1)
              | ((with_reducible refine wpList_setP (l := b) (o := ⟨none, .store _ (.tmp 61) _, _, _, _, _⟩) rfl (.tmp 61) _ rfl (w.heap.size + 1 + 1 + 1) (m - 127) (vb ^^^ 1) ?_ ?_ ?_ ?_ ?_)
                 · rfl
                 · rfl
                 · exact P1.out.pb
                 · (rw [LB.out]; omega)
                 intro q2 hq2
                 have P2 : Hid (MuSt w.heap.size w q2 x y c) := Lib.hid (by rw [hq2, EC.out]; exact (P1.out).set (m - 127) (vb ^^^ 1) (by have := BC.out; rw [EC.out] at this; exact this))
                 have cc2 : q2.cell? ⟨w.heap.size + 1 + 1 + 1, m - 126, none⟩ = some (.int .i64 (vc : Int)) := by rw [← XC.out]; exact P2.out.pb.cell (by rw [P2.out.len]; omega)
                 clear hq2)
              | ((with_reducible refine wpList_setP (l := c) (o := ⟨none, .store _ (.tmp 69) _, _, _, _, _⟩) rfl (.tmp 69) _ rfl (w.heap.size + 1 + 1 + 1) (m - 126) (vc ^^^ 1) ?_ ?_ ?_ ?_ ?_)
                 · rfl
                 · rfl
                 · exact P2.out.pb
                 · (rw [LC2.out]; omega)
                 intro q3 hq3
                 have P3 : Hid (MuSt w.heap.size w q3 x y d) := Lib.hid (by rw [hq3, ED.out]; exact (P2.out).set (m - 126) (vc ^^^ 1) (by have := BD.out; rw [ED.out] at this; exact this))
                 have cc3 : q3.cell? ⟨w.heap.size + 1 + 1 + 1, m - 121, none⟩ = some (.int .i64 (vd : Int)) := by rw [← XD.out]; exact P3.out.pb.cell (by rw [P3.out.len]; omega)
                 clear hq3)
              | ((with_reducible refine wpList_setP (l := d) (o := ⟨none, .store _ (.tmp 77) _, _, _, _, _⟩) rfl (.tmp 77) _ rfl (w.heap.size + 1 + 1 + 1) (m - 121) (vd ^^^ 1) ?_ ?_ ?_ ?_ ?_)
                 · rfl
                 · rfl
                 · exact P3.out.pb
                 · (rw [LD.out]; omega)
                 intro q4 hq4
                 have P4 : Hid (MuSt w.heap.size w q4 x y e) := Lib.hid (by rw [hq4, EE.out]; exact (P3.out).set (m - 121) (vd ^^^ 1) (by have := BE.out; rw [EE.out] at this; exact this))
                 clear hq4))
            go_roundw
            case rel =>
              have hz0 : ∀ q, m - 1 < q → q < 255 → at' e q = 0 := fun q h1 h2 => by
                rw [HFZ.out q (by omega)]
                by_cases hq : q = m
                · rw [if_pos hq]
                · rw [if_neg hq]; exact H0.out q (by omega) h2
              repeat apply Exists.intro
              exact ⟨⟨m - 1, by omega, by omega, by rw [show ((m - 1 : Nat) : Int) = (m : Int) - 1 by omega], e, P4.out, by rw [HFV.out.1, HV2.out], hz0⟩, rfl⟩
            case measure => simp [intOf]; omega
          · have hz : at' l1 m = 0 := by omega
            rw [hz] at cm
            have HS2 := Lib.hid hs
            have HV2 := Lib.hid hv
            have H0 := Lib.hid h0
            have HZ := Lib.hid hz
            clear hs hv h0 hz h1 hb
            go_wp2_with fail
            go_roundw
            case rel => exact ⟨m - 1, by omega, by omega, by rw [show ((m - 1 : Nat) : Int) = (m : Int) - 1 by omega], l1, HS2.out, HV2.out, fun q h1 h2 => by
              by_cases hq : q = m
              · rw [hq]; exact HZ.out
              · exact H0.out q (by omega) h2⟩
            case measure => simp [intOf]; omega
        · obtain rfl : m = 127 := by omega
          have hzb := zB_all hs.bin (fun i h1 h2 => h0 i (by omega) h2)
          rw [hv] at hzb
          have hz0 := zB_zero l1
          have HS2 := Lib.hid hs
          have HZB := Lib.hid hzb
          clear hs hv h0
          have GZ : Hid (w.heap.size + 1 + 1 + 1 < wr.heap.size) := Lib.hid HS2.out.pb.lt
          have V1 : Hid (MuSt w.heap.size w (wr.alloc (.cells (bts z16) 365)) x y l1) := Lib.hid (HS2.out.ab HS2.out.size ((Below.refl _ _).alloc (Nat.le_refl _) _))
          have V2 : Hid (Bk (wr.alloc (.cells (bts z16) 365)) wr.heap.size 365 (zB l1 0)) := Lib.hid (by rw [hz0]; exact Bk.newAt _ z16 rfl)
          clear hz0 HS HV
          go_wp2_with fail
          clear HS2
          generalize wr.heap.size = gz at *
          go_loopw [10] (fun j wq => ∃ i : Nat, i ≤ 128 ∧ j = .int .i64 i ∧ MuSt w.heap.size w wq x y l1 ∧ Bk wq gz 365 (zB l1 i)) (fun j _ => 128 - (intOf j).toNat)
          case atStart => exact ⟨0, by omega, rfl, V1.out, V2.out⟩
          case round =>
            obtain ⟨i, hi, rfl, hs, hk⟩ := hrel
            clear V1 V2
            by_cases hlt : i < 128
            · have hii : (i : Int) < 128 := by omega
              obtain ⟨k, hkk⟩ : ∃ k, k = i / 8 := ⟨_, rfl⟩
              have hk16 : k < 16 := by omega
              have hki : (k : Int) < 16 := by omega
              have q1 : (i : Int) / 8 = (k : Int) := by omega
              have hi255 : (i : Int) < 255 := by omega
              have hwk : IntKind.i64.wrap (k : Int) = (k : Int) := IntWalk.i64_in _ (by omega)
              have hk0 : (0 : Int) ≤ (k : Int) := by omega
              have hkt : (k : Int).toNat = k := by omega
              have q2 : (i : Int).tdiv 8 = (k : Int) := by rw [Int.tdiv_eq_ediv_of_nonneg (by omega)]; exact q1
              have cz := hk.cell (k := k) (by rw [zB_len]; exact hk16)
              have fz := hk.free k
              have cp := hs.pb.cell (k := i) (by rw [hs.len]; omega)
              have hp := hs.bin i
              have hz : at' (zB l1 i) k < 128 := by
                rw [zB_gt _ _ _ hk16]
                have := bn_lt hs.bin (8 * k) (min (i - 8 * k) 8)
                exact Nat.lt_of_lt_of_le this (Nat.pow_le_pow_right (n := 2) (j := 7) (by omega) (by omega))
              have hst := hk.set k (2 * at' (zB l1 i) k + at' l1 i)
              have hzs := zB_step l1 i hlt
              rw [← hkk] at hzs
              rw [hzs] at hst
              rw [show (zB l1 i)[k]?.getD 0 = at' (zB l1 i) k from rfl] at cz
              generalize at' (zB l1 i) k = zc at *
              generalize at' l1 i = pc at *
              have m1 : IntKind.u8.wrap (2 * (zc : Int)) = 2 * (zc : Int) := by show (2 * (zc : Int)) % 256 = _; omega
              have m2 : IntKind.u8.wrap (pc : Int) = (pc : Int) := by show (pc : Int) % 256 = _; omega
              have m3 : IntKind.u8.wrap (2 * (zc : Int) + (pc : Int)) = ((2 * zc + pc : Nat) : Int) := by show (2 * (zc : Int) + (pc : Int)) % 256 = _; omega
              have hfar := GZ.out
              have N1 := Lib.hid hst
              have N2 : Hid (MuSt w.heap.size w (wr.setCell ⟨gz, k, none⟩ (.int .u8 ((2 * zc + pc : Nat) : Int))) x y l1) := Lib.hid ⟨hs.xb.far (by omega) _, hs.yb.far (by omega) _, hs.rb.far (by omega) _, hs.pb.far (by omega) _, hs.below.setCell (by show w.heap.size ≤ gz; omega) _, hs.len, hs.bin⟩
              clear hst hs hk hzs hkk hz hfar
              go_wp2_with fail
              refine wp_still_tail 13 (by kernel_rfl) (by kernel_rfl) ?_
              simp only [List.take_succ_cons, List.take_zero, List.drop_succ_cons, List.drop_zero]
              repeat still_step
              refine wpStill_nil ?_
              go_wp2_with fail
              go_roundw
              case rel => first | exact ⟨i + 1, by omega, by go_num, N2.out.drew, N1.out⟩ | ((repeat apply Exists.intro); exact ⟨⟨i + 1, by omega, by go_num, N2.out.drew, N1.out⟩, rfl⟩)
              case measure => simp [intOf]; omega
            · obtain rfl : i = 128 := by omega
              rw [HZB.out] at hk
              have lz := digB_len V 16
              generalize hZE : digB V 16 = z at *
              have HZE := Lib.hid hZE
              clear hZE
              have T1 := Lib.hid hk
              have T2 := Lib.hid hs.rb
              have T3 := Lib.hid hs.below
              have LZ := Lib.hid lz
              clear hk hs lz
              go_wp2_with (refine wpList_loadB (l := z) (o := ⟨some 95, _, _, _, _, _⟩) rfl 365 (.tmp 9) rfl gz rfl (t := 365) ?_ Tryz.underlying365 (by rw [LZ.out]; exact sz16) ?_
                           · exact T1.out
                           refine wpList_storeB (l := z16) (o := ⟨none, .store _ (.tmp 4) (.tmp 95), _, _, _, _⟩) rfl 365 (.tmp 4) (.tmp 95) rfl (w.heap.size + 1 + 1) rfl z rfl (t := 365) ?_ (by rw [LZ.out]; exact sz16) (by rw [LZ.out]; rfl) ?_
                           · exact T2.out)
              refine bodyPost_ret (results_bts Tryz.results330 _ _ _ rfl (T2.out.row z) Tryz.underlying365 (by rw [LZ.out]; exact sz16)) rfl ?_
              exact ⟨by rw [HVE.out, HZE.out], Below.row T3.out (by omega) _⟩
end Go.Proofs.YtakgebbeknfplaaGreat
