/-
  WALKS: the reference's steps: add, moved, column.
-/
import Derived.Test.YtmeakfocppooiaaAeL
import Derived.Deep.DeepCutAuto
namespace Go.Proofs.Ytmeakfocppooiaa
open Go.RowKit
set_option linter.unusedVariables false

/-- bytes from a block's head on -/
structure Rw (w : World) (g : Nat) (W : List Nat) : Prop where
  lt : g < w.heap.size
  cell : ∀ i, i < W.length → w.cell? ⟨g, i, none⟩ = some (.int .u8 (at' W i : Nat))
theorem Rw.below {w w' : World} {g B : Nat} {W : List Nat} (h : Rw w g W) (hb : Below B w w') (hB : g < B) (hs : w.heap.size ≤ w'.heap.size := by exact Below.size (by assumption)) : Rw w' g W :=
  ⟨Nat.lt_of_lt_of_le h.lt hs, fun i hi => (hb.cell (p := ⟨g, i, none⟩) hB).trans (h.cell i hi)⟩
theorem Rw.ab {w w' : World} {g : Nat} {W : List Nat} (h : Rw w g W) (hb : Below w.heap.size w w') : Rw w' g W :=
  ⟨Nat.lt_of_lt_of_le h.lt hb.size, fun i hi => (hb.cell (p := ⟨g, i, none⟩) h.lt).trans (h.cell i hi)⟩

set_option maxRecDepth 100000 in
set_option maxHeartbeats 1000000 in
theorem rAdd_any (s W : List Nat) (g n c j : Nat) (hs : Byt s) (ls : s.length = 16) (hW : Byt W) (lW : W.length = n) (w : World) (hr : Rw w g W) (hj : 16 * j + 16 ≤ n) (hn : n ≤ 100000) (hc : n ≤ c) (hcm : c ≤ 9223372036854775807) :
    Calls Try.prog 152 #[.agg (bts s), .slice (some ⟨g, 0, none⟩) n c, .int .i64 (j : Int)] w fun e w' => e = .returned (.agg (bts (addK s W (16 * j)))) ∧ Below w.heap.size w w' := by
  have LS := Lib.hid ls
  have LW := Lib.hid lW
  have HR := Lib.hid hr
  clear ls hr lW
  have hst := Lib.hid (St16.start w 205 s)
  go_enter Try.func152, Try.ntmps152
  go_wp2_with fail
  go_loopw [7] (fun v wr => ∃ k : Nat, k ≤ 16 ∧ v = .int .i64 k ∧ St16 w.heap.size 205 w wr (upd (addF s W (16 * j)) s k)) (fun v _ => 16 - (intOf v).toNat)
  case atStart => exact ⟨0, by omega, rfl, by rw [upd_zero]; exact hst.out⟩
  case round =>
    obtain ⟨k, hk, rfl, hin⟩ := hrel
    clear hst
    by_cases hlt : k < 16
    · have hki : (k : Int) < 16 := by omega
      have c1 := hin.cur.cell (k := k) (by rw [upd_len, LS.out]; exact hlt)
      rw [upd_cell (by rw [LS.out]; exact hlt)] at c1
      have f1 := hin.cur.free k
      have c2 := (HR.out.ab hin.below).cell (16 * j + k) (by rw [LW.out]; omega)
      have hx := hs.get k
      have hy := hW.at' (16 * j + k)
      have hF : addF s W (16 * j) k = s[k]?.getD 0 ^^^ at' W (16 * j + k) := rfl
      generalize s[k]?.getD 0 = x at c1 hx hF
      generalize at' W (16 * j + k) = y at c2 hy hF
      have hxo := bits_xor_u8 x y hx hy
      have hv1 : IntKind.i64.wrap (16 * (j : Int)) = 16 * (j : Int) := IntWalk.i64_in _ (by omega)
      have hv2 : IntKind.i64.wrap (16 * (j : Int) + (k : Int)) = 16 * (j : Int) + (k : Int) := IntWalk.i64_in _ (by omega)
      have hv3 : 16 * (j : Int) + (k : Int) < (n : Int) := by omega
      have hv4 : (0 : Int) ≤ 16 * (j : Int) + (k : Int) := by omega
      have hv5 : (16 * (j : Int) + (k : Int)).toNat = 16 * j + k := by omega
      have HF := Lib.hid hF
      have HI := Lib.hid hin
      clear hF hin
      go_wp2_with fail
      refine wp_still_tail 13 (by kernel_rfl) (by kernel_rfl) ?_
      simp only [List.take_succ_cons, List.take_zero, List.drop_succ_cons, List.drop_zero]
      repeat still_step
      refine wpStill_nil ?_
      clear hv1 hv2 hv5
      go_wp2
      go_roundw
      case rel => exact ⟨k + 1, by omega, by go_num, HI.out.set (by rw [LS.out]; exact hlt) (by rw [HF.out])⟩
      case measure => simp [intOf]; omega
    · obtain rfl : k = 16 := by omega
      have h1 := hin.cur
      have e1 : upd (addF s W (16 * j)) s 16 = addK s W (16 * j) := by
        have := upd_all (addF s W (16 * j)) s
        rw [LS.out] at this
        exact this
      rw [e1] at h1
      have hal : (addK s W (16 * j)).length = 16 := addK_len _ _ _
      generalize hye : addK s W (16 * j) = y at h1 hal
      have HYE := Lib.hid hye
      clear hye
      have H1 := Lib.hid h1
      have H2 := Lib.hid hin.res
      have HB2 := Lib.hid hin.below
      have HA := Lib.hid hal
      clear h1 hin e1 hal
      go_wp2_with (first
        | (refine wpList_loadB (o := ⟨some 25, _, _, _, _, _⟩) rfl 205 (.tmp 3) rfl _ rfl H1.out Try.underlying205 (by rw [HA.out]; exact sz16) ?_)
        | (refine wpList_storeB (o := ⟨none, .store _ _ _, _, _, _, _⟩) rfl 205 (.tmp 6) (.tmp 25) rfl _ rfl y rfl H2.out (by rw [HA.out]; exact sz16) (by rw [HA.out]; rfl) ?_))
      refine bodyPost_ret (results_bts Try.results152 _ _ _ rfl (H2.out.row y) Try.underlying205 (by rw [HA.out]; exact sz16)) rfl ?_
      exact ⟨by rw [HYE.out], Below.row HB2.out (by omega) _⟩

/-- p rows are moved, and q of the next -/
def movL (F : Nat → Nat) (p q : Nat) : List Nat := (List.range 16).map fun i => if i % 4 < p ∨ i % 4 = p ∧ i / 4 < q then F i else 0
theorem movL_len (F : Nat → Nat) (p q : Nat) : (movL F p q).length = 16 := by simp [movL]
theorem movL_zero (F : Nat → Nat) : movL F 0 0 = z16 := rfl
theorem movL_step (F : Nat → Nat) (p q : Nat) (hp : p < 4) (hq : q < 4) : (movL F p q).set (4 * q + p) (F (4 * q + p)) = movL F p (q + 1) := by
  apply List.ext_getElem (by simp [movL])
  intro i h1 h2
  rw [List.getElem_set]
  simp only [movL, List.getElem_map, List.getElem_range]
  have hi : i < 16 := by rw [movL_len] at h2; exact h2
  by_cases h : 4 * q + p = i
  · rw [if_pos h, if_pos (by omega), h]
  · rw [if_neg h]
    have e : (i % 4 < p ∨ i % 4 = p ∧ i / 4 < q + 1) ↔ (i % 4 < p ∨ i % 4 = p ∧ i / 4 < q) := by omega
    simp only [e]
theorem movL_next (F : Nat → Nat) (p : Nat) : movL F p 4 = movL F (p + 1) 0 := by
  apply List.ext_getElem (by simp [movL])
  intro i h1 h2
  simp only [movL, List.getElem_map, List.getElem_range]
  have hi : i < 16 := by rw [movL_len] at h2; exact h2
  have e : (i % 4 < p ∨ i % 4 = p ∧ i / 4 < 4) ↔ (i % 4 < p + 1 ∨ i % 4 = p + 1 ∧ i / 4 < 0) := by omega
  simp only [e]
theorem movL_all (F : Nat → Nat) : movL F 4 0 = (List.range 16).map F := by
  unfold movL
  refine List.map_congr_left fun i hi => ?_
  have : i < 16 := by simpa using hi
  rw [if_pos (by omega)]
structure Mov (B : Nat) (w0 w : World) (s l : List Nat) (by' : Nat → Nat) : Prop where
  src : Bk w B 205 s
  mv : ∀ p, p < 4 → w.cell? ⟨B + 1, p, none⟩ = some (.int .i64 (by' p : Nat))
  res : Bk w (B + 1 + 1) 205 z16
  cur : Bk w (B + 1 + 1 + 1) 205 l
  below : Below B w0 w
theorem Mov.step {B : Nat} {w0 w : World} {s : List Nat} {F : Nat → Nat} {p q x : Nat} {by' : Nat → Nat} (h : Mov B w0 w s (movL F p q) by') (hp : p < 4) (hq : q < 4) (hx : x = F (4 * q + p)) :
    Mov B w0 (w.setCell ⟨B + 1 + 1 + 1, 4 * q + p, none⟩ (.int .u8 (x : Int))) s (movL F p (q + 1)) by' := by
  subst hx
  refine ⟨h.src.far (by omega) _, fun i hi => ?_, h.res.far (by omega) _, ?_, h.below.setCell (by show B ≤ B + 1 + 1 + 1; omega) _⟩
  · rw [World.cell?_setCell_far _ _ _ _ (by show B + 1 + 1 + 1 ≠ B + 1; omega)]
    exact h.mv i hi
  · have := h.cur.set (4 * q + p) (F (4 * q + p))
    rw [movL_step F p q hp hq] at this
    exact this

set_option maxRecDepth 100000 in
set_option maxHeartbeats 1000000 in
theorem moved_any (s : List Nat) (b0 b1 b2 b3 t : Nat) (by' : Nat → Nat) (hs : Byt s) (ls : s.length = 16) (e0 : by' 0 = b0) (e1 : by' 1 = b1) (e2 : by' 2 = b2) (e3 : by' 3 = b3) (hby : ∀ p, p < 4 → by' p < 4) (hF : ∀ p q, p < 4 → q < 4 → shiftF t s (4 * q + p) = at' s (4 * ((q + by' p) % 4) + p)) (w : World) :
    Calls Try.prog 154 #[.agg (bts s), .agg #[.int .i64 (b0 : Int), .int .i64 (b1 : Int), .int .i64 (b2 : Int), .int .i64 (b3 : Int)]] w fun e w' => e = .returned (.agg (bts (shiftK t s))) ∧ Below w.heap.size w w' := by
  have LS := Lib.hid ls
  have HF := Lib.hid hF
  have HBY := Lib.hid hby
  have hst : ∃ W, W = (((w.alloc (.cells (bts s) 205)).alloc (.cells #[.int .i64 (b0 : Int), .int .i64 (b1 : Int), .int .i64 (b2 : Int), .int .i64 (b3 : Int)] 243)).alloc (.cells (bts z16) 205)).alloc (.cells (bts z16) 205) ∧ Mov w.heap.size w W s z16 by' := by
    refine ⟨_, rfl, ((((Bk.newAt _ s rfl).alloc _).alloc _).alloc _), fun p hp => ?_, (Bk.newAt _ z16 (by simp)).alloc _, Bk.newAt _ z16 (by simp), ((((Below.refl _ _).alloc (Nat.le_refl _) _).alloc (by simp) _).alloc (by simp; omega) _).alloc (by simp; omega) _⟩
    have h1 : (((((w.alloc (.cells (bts s) 205)).alloc (.cells #[.int .i64 (b0 : Int), .int .i64 (b1 : Int), .int .i64 (b2 : Int), .int .i64 (b3 : Int)] 243)).alloc (.cells (bts z16) 205)).alloc (.cells (bts z16) 205)).heap[w.heap.size + 1]?) = some (.cells #[.int .i64 (b0 : Int), .int .i64 (b1 : Int), .int .i64 (b2 : Int), .int .i64 (b3 : Int)] 243 (0, 0)) := by
      rw [Below.heap_alloc _ _ _ (by simp), Below.heap_alloc _ _ _ (by simp)]
      have := heap_alloc_new (w.alloc (.cells (bts s) 205)) (.cells #[.int .i64 (b0 : Int), .int .i64 (b1 : Int), .int .i64 (b2 : Int), .int .i64 (b3 : Int)] 243)
      simpa using this
    rw [cell_of_row _ _ p _ _ (0, 0) h1]
    match p, hp with
    | 0, _ => rw [e0]; rfl
    | 1, _ => rw [e1]; rfl
    | 2, _ => rw [e2]; rfl
    | 3, _ => rw [e3]; rfl
  obtain ⟨W, hW, hst⟩ := hst
  have HST := Lib.hid hst
  have HW := Lib.hid hW
  clear ls hF hby hst hW e0 e1 e2 e3
  go_enter Try.func154, Try.ntmps154
  go_wp2_with fail
  go_loopw [6, 7] (fun v _ wr => ∃ p : Nat, p ≤ 4 ∧ v = .int .i64 p ∧ Mov w.heap.size w wr s (movL (shiftF t s) p 0) by') (fun v _ _ => 4 - (intOf v).toNat)
  case atStart => exact ⟨0, by omega, rfl, by have := HST.out; rw [HW.out] at this; exact this⟩
  case round =>
    obtain ⟨p, hp, rfl, ho⟩ := hrel
    clear HST HW
    by_cases hlt : p < 4
    · have hpi : (p : Int) < 4 := by omega
      have hpd : decide ((p : Int) < 4) = true := by simpa using hpi
      have HO := Lib.hid ho
      clear ho
      go_wp2_with fail
      go_loopw [7] (fun v wq => ∃ q : Nat, q ≤ 4 ∧ v = .int .i64 q ∧ Mov w.heap.size w wq s (movL (shiftF t s) p q) by') (fun v _ => 4 - (intOf v).toNat)
      case atStart => exact ⟨0, by omega, rfl, HO.out⟩
      case round =>
        obtain ⟨q, hq, rfl, hi⟩ := hrel
        clear HO
        by_cases hlq : q < 4
        · have hqi : (q : Int) < 4 := by omega
          have c0 := hi.mv p hlt
          have hm := HBY.out p hlt
          have hF := HF.out p q hlt hlq
          generalize by' p = m at c0 hm hF
          have hmi : (m : Int) < 4 := by omega
          have hmo : (((q : Int) + (m : Int))).tmod 4 = (((q + m) % 4 : Nat) : Int) := by rw [Int.tmod_eq_emod_of_nonneg (by omega)]; omega
          have hmo2 : (((q : Int) + (m : Int))) % 4 = (((q + m) % 4 : Nat) : Int) := by omega
          have hr4 : (q + m) % 4 < 4 := by omega
          generalize (q + m) % 4 = r at hmo hmo2 hr4 hF
          have hri : (r : Int) < 4 := by omega
          have c1 := hi.src.cell (k := 4 * r + p) (by rw [LS.out]; omega)
          have c2 := hi.cur.cell (k := 4 * q + p) (by rw [movL_len]; omega)
          have f2 := hi.cur.free (4 * q + p)
          have hF' : shiftF t s (4 * q + p) = s[4 * r + p]?.getD 0 := hF
          generalize s[4 * r + p]?.getD 0 = x at c1 hF'
          have hst := hi.step (x := x) hlt hlq hF'.symm
          have HS := Lib.hid hst
          clear hF hF' hst hi
          go_wp2
          go_roundw
          case rel => exact ⟨q + 1, by omega, by go_num, HS.out⟩
          case measure => simp [intOf]; omega
        · obtain rfl : q = 4 := by omega
          have hn := hi
          rw [movL_next] at hn
          have HN := Lib.hid hn
          clear hn hi
          go_wp2
          go_roundw
          case rel => exact ⟨p + 1, by omega, by go_num, HN.out⟩
          case measure => simp [intOf]; omega
    · obtain rfl : p = 4 := by omega
      rw [movL_all] at ho
      have ho2 : Mov w.heap.size w wr s (shiftK t s) by' := ho
      have hal : (shiftK t s).length = 16 := shiftK_len _ _
      clear ho
      generalize hye : shiftK t s = y at ho2 hal
      have HYE := Lib.hid hye
      clear hye
      have HO := Lib.hid ho2
      have HA := Lib.hid hal
      clear ho2 hal
      go_wp2_with (first
        | (refine wpList_loadB (o := ⟨some 32, _, _, _, _, _⟩) rfl 205 (.tmp 5) rfl _ rfl HO.out.cur Try.underlying205 (by rw [HA.out]; exact sz16) ?_)
        | (refine wpList_storeB (o := ⟨none, .store _ (.tmp 4) (.tmp 32), _, _, _, _⟩) rfl 205 (.tmp 4) (.tmp 32) rfl _ rfl y rfl HO.out.res (by rw [HA.out]; exact sz16) (by rw [HA.out]; rfl) ?_))
      refine bodyPost_ret (results_bts Try.results154 _ _ _ rfl (HO.out.res.row y) Try.underlying205 (by rw [HA.out]; exact sz16)) rfl ?_
      exact ⟨by rw [HYE.out], Below.row HO.out.below (by omega) _⟩
theorem moved1_any (s : List Nat) (hs : Byt s) (ls : s.length = 16) (w : World) :
    Calls Try.prog 154 #[.agg (bts s), .agg #[.int .i64 0, .int .i64 1, .int .i64 2, .int .i64 3]] w fun e w' => e = .returned (.agg (bts (shiftK 1 s))) ∧ Below w.heap.size w w' :=
  moved_any s 0 1 2 3 1 (fun p => p) hs ls rfl rfl rfl rfl (fun p h => h) (fun p q hp hq => by
    unfold shiftF at'
    rw [show (4 * q + p) / 4 = q from by omega, show (4 * q + p) % 4 = p from by omega, Nat.one_mul]) w
theorem moved3_any (s : List Nat) (hs : Byt s) (ls : s.length = 16) (w : World) :
    Calls Try.prog 154 #[.agg (bts s), .agg #[.int .i64 0, .int .i64 3, .int .i64 2, .int .i64 1]] w fun e w' => e = .returned (.agg (bts (shiftK 3 s))) ∧ Below w.heap.size w w' :=
  moved_any s 0 3 2 1 3 (fun p => 3 * p % 4) hs ls rfl rfl rfl rfl (fun p h => by show 3 * p % 4 < 4; omega) (fun p q hp hq => by
    unfold shiftF at'
    rw [show (4 * q + p) / 4 = q from by omega, show (4 * q + p) % 4 = p from by omega, show (q + 3 * p) % 4 = (q + 3 * p % 4) % 4 from by omega]) w

set_option maxRecDepth 100000 in
set_option maxHeartbeats 1000000 in
theorem column_any (s : List Nat) (q : Nat) (hs : Byt s) (ls : s.length = 16) (hq : q < 4) (w : World) :
    Calls Try.prog 156 #[.agg (bts s), .int .i64 (q : Int)] w fun e w' => e = .returned (.agg (bts (rowOf s q))) ∧ Below w.heap.size w w' := by
  have LS := Lib.hid ls
  have hqi : (q : Int) < 4 := by omega
  have hst : ∃ W, W = (w.alloc (.cells (bts s) 205)).alloc (.cells (bts [0, 0, 0, 0]) 244) ∧ Bk W w.heap.size 205 s ∧ Bk W (w.heap.size + 1) 244 [0, 0, 0, 0] ∧ Below w.heap.size w W :=
    ⟨_, rfl, (Bk.newAt _ s rfl).alloc _, Bk.newAt _ [0, 0, 0, 0] (by simp), ((Below.refl _ _).alloc (Nat.le_refl _) _).alloc (by simp) _⟩
  obtain ⟨W, hW, hs1, hs2, hb⟩ := hst
  have hr : rowOf s q = [at' s (4 * q), at' s (4 * q + 1), at' s (4 * q + 2), at' s (4 * q + 3)] := by
    apply List.ext_getElem (by simp [rowOf, ls]; omega)
    intro i h1 h2
    have hi : i < 4 := by simpa using h2
    simp only [rowOf, List.getElem_take, List.getElem_drop]
    match i, hi with
    | 0, _ => simp [at', List.getElem?_eq_getElem (show 4 * q < s.length by omega)]
    | 1, _ => simp [at', List.getElem?_eq_getElem (show 4 * q + 1 < s.length by omega)]
    | 2, _ => simp [at', List.getElem?_eq_getElem (show 4 * q + 2 < s.length by omega)]
    | 3, _ => simp [at', List.getElem?_eq_getElem (show 4 * q + 3 < s.length by omega)]
  have c0 := hs1.cell (k := 4 * q) (by omega)
  have c1 := hs1.cell (k := 4 * q + 1) (by omega)
  have c2 := hs1.cell (k := 4 * q + 2) (by omega)
  have c3 := hs1.cell (k := 4 * q + 3) (by omega)
  change W.cell? _ = some (.int .u8 ((at' s (4 * q) : Nat) : Int)) at c0
  change W.cell? _ = some (.int .u8 ((at' s (4 * q + 1) : Nat) : Int)) at c1
  change W.cell? _ = some (.int .u8 ((at' s (4 * q + 2) : Nat) : Int)) at c2
  change W.cell? _ = some (.int .u8 ((at' s (4 * q + 3) : Nat) : Int)) at c3
  rw [hr]
  clear hr ls
  generalize at' s (4 * q) = x0 at *
  generalize at' s (4 * q + 1) = x1 at *
  generalize at' s (4 * q + 2) = x2 at *
  generalize at' s (4 * q + 3) = x3 at *
  have hv0 : IntKind.i64.wrap (4 * (q : Int)) = 4 * (q : Int) := IntWalk.i64_in _ (by omega)
  have hv1 : IntKind.i64.wrap (4 * (q : Int) + 1) = 4 * (q : Int) + 1 := IntWalk.i64_in _ (by omega)
  have hv2 : IntKind.i64.wrap (4 * (q : Int) + 2) = 4 * (q : Int) + 2 := IntWalk.i64_in _ (by omega)
  have hv3 : IntKind.i64.wrap (4 * (q : Int) + 3) = 4 * (q : Int) + 3 := IntWalk.i64_in _ (by omega)
  have hw0 : (0 : Int) ≤ 4 * (q : Int) := by omega
  have hx0 : 4 * (q : Int) < 16 := by omega
  have hy0 : (4 * (q : Int)).toNat = 4 * q := by omega
  have hw1 : (0 : Int) ≤ 4 * (q : Int) + 1 := by omega
  have hx1 : 4 * (q : Int) + 1 < 16 := by omega
  have hy1 : (4 * (q : Int) + 1).toNat = 4 * q + 1 := by omega
  have hw2 : (0 : Int) ≤ 4 * (q : Int) + 2 := by omega
  have hx2 : 4 * (q : Int) + 2 < 16 := by omega
  have hy2 : (4 * (q : Int) + 2).toNat = 4 * q + 2 := by omega
  have hw3 : (0 : Int) ≤ 4 * (q : Int) + 3 := by omega
  have hx3 : 4 * (q : Int) + 3 < 16 := by omega
  have hy3 : (4 * (q : Int) + 3).toNat = 4 * q + 3 := by omega
  have HW := Lib.hid hW
  have H1 := Lib.hid hs1
  have H2 := Lib.hid hs2
  have HB := Lib.hid hb
  clear hW hs1 hs2 hb
  go_enter Try.func156, Try.ntmps156
  go_upto_region 1 with (fail)
  have e : (w.alloc (.cells (bts s) 205)).alloc (.cells #[.int .u8 0, .int .u8 0, .int .u8 0, .int .u8 0] 244) = W := HW.out.symm
  rw [e]
  clear e HW
  refine wp_still_tail 20 (by kernel_rfl) (by kernel_rfl) ?_
  simp only [List.take_succ_cons, List.take_zero, List.drop_succ_cons, List.drop_zero]
  repeat still_step
  refine wpStill_nil ?_
  clear hv0 hv1 hv2 hv3 hy0 hy1 hy2 hy3 c0 c1 c2 c3
  go_wp2_with (refine wpList_storeB (o := ⟨none, .store _ (.tmp 4) (.tmp 24), _, _, _, _⟩) rfl 244 (.tmp 4) (.tmp 24) rfl _ rfl [x0, x1, x2, x3] rfl H2.out.drew sz4 rfl ?_)
  refine bodyPost_ret (results_bts Try.results156 _ _ _ rfl (H2.out.drew.row [x0, x1, x2, x3]) Try.underlying244 sz4) rfl ?_
  exact ⟨rfl, Below.row HB.out.drew (by omega) _⟩
end Go.Proofs.Ytmeakfocppooiaa
