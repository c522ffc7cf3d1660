/-
  WALKS: columns: the program's Mix and Unmix, the reference's.
-/
import Derived.Test.YthcjemcimfbnhaaBlk
import Derived.StillTailTactics
namespace Go.Proofs.Ythcjemcimfbnhaa
open Go.RowKit
set_option linter.unusedVariables false

/-- a row times a column, k places of it -/
def rowAcc (r c : List Nat) : Nat → Nat
  | 0 => 0
  | k + 1 => rowAcc r c k ^^^ gmul (r[k]?.getD 0) (c[k]?.getD 0)
def rowOf (R : List Nat) (i : Nat) : List Nat := (R.drop (4 * i)).take 4
def byRows (R c : List Nat) : List Nat := (List.range 4).map fun i => rowAcc (rowOf R i) c 4
/-- bytes -/
def Byt (l : List Nat) : Prop := ∀ x ∈ l, x < 256
theorem Byt.get {l : List Nat} (h : Byt l) (k : Nat) : l[k]?.getD 0 < 256 := by
  cases hk : l[k]? with
  | none => simp
  | some x => exact h x (List.mem_of_getElem? hk)
theorem rowAcc_lt {r c : List Nat} (hr : Byt r) : ∀ k, rowAcc r c k < 256
  | 0 => by simp [rowAcc]
  | k + 1 => xor_lt (rowAcc_lt hr k) (gmul_lt _ (hr.get k))
theorem rowOf_byt {R : List Nat} (h : Byt R) (i : Nat) : Byt (rowOf R i) := fun x hx => h x (List.mem_of_mem_drop (List.mem_of_mem_take hx))
theorem byRows_byt {R c : List Nat} (h : Byt R) : Byt (byRows R c) := by
  intro x hx
  simp only [byRows, List.mem_map, List.mem_range] at hx
  obtain ⟨i, _, rfl⟩ := hx
  exact rowAcc_lt (rowOf_byt h i) 4
theorem byRows_len (R c : List Nat) : (byRows R c).length = 4 := by simp [byRows]

theorem sz4 : (Try.prog.info? 200).map (·.size) = some 4 := by kernel_rfl
theorem sz44 : (Try.prog.info? 227).map (·.size) = some 16 := by kernel_rfl
theorem sz16 : (Try.prog.info? 23).map (·.size) = some 16 := by kernel_rfl

theorem info4 : ∃ i, Try.prog.info? 200 = some i ∧ i.size = 4 := by
  have h := sz4
  cases hq : Try.prog.info? 200 with
  | none => rw [hq] at h; cases h
  | some i => exact ⟨i, rfl, by rw [hq] at h; simpa using h⟩
theorem infoB : ∃ i, Try.prog.info? 5 = some i ∧ i.size = 1 := by
  have h : (Try.prog.info? 5).map (·.size) = some 1 := by kernel_rfl
  cases hq : Try.prog.info? 5 with
  | none => rw [hq] at h; cases h
  | some i => exact ⟨i, rfl, by rw [hq] at h; simpa using h⟩

def byF (R c : List Nat) (i : Nat) : Nat := rowAcc (rowOf R i) c 4
/-- behind i rounds of the outer loop: B the heap's size when the call began -/
structure ByOut (B : Nat) (w : World) (R c : List Nat) (i : Nat) : Prop where
  out : Bk w (B + 1 + 1 + 1) 200 (upd (byF R c) [0, 0, 0, 0] i)
  col : Bk w (B + 1) 200 c
  res : Bk w (B + 1 + 1) 200 [0, 0, 0, 0]
  size : B + 4 ≤ w.heap.size

/-- behind k rounds of the inner loop -/
structure ByIn (B : Nat) (w : World) (R c : List Nat) (i : Nat) (r : List Nat) (k : Nat) : Prop where
  out : Bk w (B + 1 + 1 + 1) 200 ((upd (byF R c) [0, 0, 0, 0] i).set i (rowAcc r c k))
  col : Bk w (B + 1) 200 c
  res : Bk w (B + 1 + 1) 200 [0, 0, 0, 0]
  size : B + 4 ≤ w.heap.size
theorem byIn_start {B : Nat} {w : World} {R c : List Nat} {i : Nat} {r : List Nat} (h : ByOut B w R c i) (hi : i < 4) :
    ByIn B ((w.alloc (.cells (bts [0, 0, 0, 0]) 200)).setRow w.heap.size (bts r)) R c i r 0 := by
  have hs := h.size
  have e : (upd (byF R c) [0, 0, 0, 0] i).set i (rowAcc r c 0) = upd (byF R c) [0, 0, 0, 0] i := by
    apply List.ext_getElem (by simp)
    intro j h1 h2
    rw [List.getElem_set]
    split
    · rename_i hij
      subst hij
      have := upd_get (byF R c) [0, 0, 0, 0] i i (by simpa using hi)
      rw [List.getElem?_eq_getElem h2] at this
      simp only [Option.getD_some, Nat.lt_irrefl, if_false] at this
      rw [this]
      match i, hi with
      | 0, _ => rfl
      | 1, _ => rfl
      | 2, _ => rfl
      | 3, _ => rfl
    · rfl
  refine ⟨?_, (h.col.alloc _).rowFar (by omega) _, (h.res.alloc _).rowFar (by omega) _, by simp; omega⟩
  rw [e]
  exact (h.out.alloc _).rowFar (by omega) _
theorem ByIn.cell {B : Nat} {w : World} {R c : List Nat} {i : Nat} {r : List Nat} {k : Nat} (h : ByIn B w R c i r k) (hi : i < 4) : w.cell? ⟨B + 1 + 1 + 1, i, none⟩ = some (.int .u8 (rowAcc r c k : Nat)) := by
  have hl : i < ((upd (byF R c) [0, 0, 0, 0] i).set i (rowAcc r c k)).length := by simp [upd_len]; exact hi
  rw [h.out.cell hl]
  simp [upd_len, hi]

theorem byIn_step {B : Nat} {w : World} {R c : List Nat} {i : Nat} {r : List Nat} {k x : Nat} (h : ByIn B w R c i r k) (hi : i < 4) (hx : x = rowAcc r c (k + 1)) :
    ByIn B (w.drew.setCell ⟨B + 1 + 1 + 1, i, none⟩ (.int .u8 (x : Int))) R c i r (k + 1) := by
  subst hx
  refine ⟨?_, h.col.drew.far (by omega) _, h.res.drew.far (by omega) _, by simpa using h.size⟩
  have := h.out.drew.set i (rowAcc r c (k + 1))
  rw [List.set_set] at this
  exact this
theorem byIn_end {B : Nat} {w : World} {R c : List Nat} {i : Nat} {r : List Nat} (h : ByIn B w R c i r 4) (hF : byF R c i = rowAcc r c 4) (hi : i < 4) : ByOut B w R c (i + 1) := by
  refine ⟨?_, h.col, h.res, h.size⟩
  have := h.out
  rw [← hF, upd_step (byF R c) [0, 0, 0, 0] i (by simpa using hi)] at this
  exact this

set_option maxRecDepth 100000 in
set_option maxHeartbeats 1000000 in
theorem by_any (R c : List Nat) (hR : Byt R) (hc : Byt c) (lR : R.length = 16) (lc : c.length = 4) (w : World) :
    Calls Try.prog 169 #[.agg (bts R), .agg (bts c)] w fun e w' => e = .returned (.agg (bts (byRows R c))) ∧ Below w.heap.size w w' := by
  have LR := Lib.hid lR
  have LC := Lib.hid lc
  clear lR lc
  go_enter Try.func169, Try.ntmps169
  go_wp2_with (refine wpList_loadB (o := ⟨some 10, _, _, _, _, _⟩) rfl 227 (.tmp 2) rfl _ rfl ((((Bk.new w 227 R).alloc _).alloc _).alloc _) Try.underlying227 (by rw [LR.out]; exact sz44) ?_)
  have hsz : ((((w.alloc (.cells (bts R) 227)).alloc (.cells (bts c) 200)).alloc (.cells (bts [0, 0, 0, 0]) 200)).alloc (.cells (bts [0, 0, 0, 0]) 200)).heap.size = w.heap.size + 4 := by simp
  go_loopw [11] (fun i wr => ∃ k : Nat, k ≤ 4 ∧ i = .int .i64 k ∧ ByOut w.heap.size wr R c k ∧ Below w.heap.size w wr) (fun i _ => 4 - (intOf i).toNat)
  case atStart =>
    refine ⟨0, by omega, rfl, ⟨?_, ?_, ?_, ?_⟩, ?_⟩
    · rw [upd_zero]
      exact Bk.newAt _ [0, 0, 0, 0] (by simp)
    · exact ((Bk.newAt _ c (by simp)).alloc _).alloc _
    · exact (Bk.newAt _ [0, 0, 0, 0] (by simp)).alloc _
    · exact Nat.le_of_eq hsz.symm
    · exact ((((Below.refl _ _).alloc (Nat.le_refl _) _).alloc (by simp) _).alloc (by simp; omega) _).alloc (by simp; omega) _
  case round =>
    obtain ⟨i, hi, rfl, ho, hb⟩ := hrel
    by_cases hlt : i < 4
    · obtain ⟨i4, hi4, hs4⟩ := info4
      have hix : ∀ W : World, (Instr.index 227 (.agg (bts R)) (.int .i64 (i : Int))).run Try.prog W = .ok (.agg (bts (rowOf R i))) W := fun W => by
        rw [run_index_row W R i Try.underlying227 Try.underlying200 hi4 hs4 hlt, Nat.mul_comm]
        rfl
      clear hi4 hs4
      have lr : (rowOf R i).length = 4 := by
        have := LR.out
        simp [rowOf]
        omega
      have hr := rowOf_byt hR i
      have hF : byF R c i = rowAcc (rowOf R i) c 4 := rfl
      generalize rowOf R i = r at hix lr hr hF
      have HL := Lib.hid lr
      have HO := Lib.hid ho
      have HB := Lib.hid hb
      have HF := Lib.hid hF
      clear lr ho hb hsz hF
      go_wp2_with (first
        | (refine wpList_storeB (o := ⟨none, .store _ _ _, _, _, _, _⟩) rfl 200 (.tmp 7) (.tmp 14) rfl _ rfl r rfl (Bk.new wr 200 [0, 0, 0, 0]) (by rw [HL.out]; exact sz4) (by rw [HL.out]; rfl) ?_)
        | (refine wpList_loadB (o := ⟨some 15, _, _, _, _, _⟩) rfl 200 (.tmp 7) rfl _ rfl ((Bk.new wr 200 [0, 0, 0, 0]).row r) Try.underlying200 (by rw [HL.out]; exact sz4) ?_))
      have hin : ByIn w.heap.size ((wr.alloc (.cells (bts [0, 0, 0, 0]) 200)).setRow wr.heap.size (bts r)) R c i r 0 := byIn_start HO.out hlt
      have hbl : Below w.heap.size w ((wr.alloc (.cells (bts [0, 0, 0, 0]) 200)).setRow wr.heap.size (bts r)) := Below.row (HB.out.alloc HB.out.size _) HB.out.size _
      have HIN := Lib.hid hin
      have HBL := Lib.hid hbl
      clear hin hbl HO HB
      go_loopw [16] (fun j wq => ∃ k : Nat, k ≤ 4 ∧ j = .int .i64 k ∧ ByIn w.heap.size wq R c i r k ∧ Below w.heap.size w wq) (fun j _ => 4 - (intOf j).toNat)
      case atStart => exact ⟨0, by omega, rfl, HIN.out, HBL.out⟩
      case round =>
        obtain ⟨k, hk, rfl, hin, hb⟩ := hrel
        clear HIN HBL
        by_cases hlk : k < 4
        · obtain ⟨iB, hiB, hsB⟩ := infoB
          have hiy : ∀ W : World, (Instr.index 200 (.agg (bts r)) (.int .i64 (k : Int))).run Try.prog W = .ok (.int .u8 (r[k]?.getD 0 : Nat)) W := fun W =>
            run_index_byte W r k Try.underlying200 Try.underlying5 hiB hsB hlk HL.out
          clear hiB hsB
          have oc := hin.cell hlt
          have of := hin.out.free i
          have cc := hin.col.cell (k := k) (by rw [LC.out]; exact hlk)
          have hz := hr.get k
          have hy := hc.get k
          have hx := rowAcc_lt (c := c) hr k
          have hs : rowAcc r c (k + 1) = rowAcc r c k ^^^ gmul (r[k]?.getD 0) (c[k]?.getD 0) := rfl
          generalize r[k]?.getD 0 = z at hiy hz hs
          generalize c[k]?.getD 0 = y at cc hy hs
          have hg := gmul_lt y hz
          have hxo := bits_xor_u8 (rowAcc r c k) (gmul z y) hx hg
          generalize hxx : rowAcc r c k = x at oc hx hs hxo
          have HXX := Lib.hid hxx
          have HS := Lib.hid hs
          have HI := Lib.hid hin
          have HB2 := Lib.hid hb
          clear hxx hs hin hb
          go_wp2_with fail
          refine wp_still_tail 10 (by kernel_rfl) (by kernel_rfl) ?_
          simp only [List.take_succ_cons, List.take_zero, List.drop_succ_cons, List.drop_zero]
          repeat still_step
          refine wpStill_step (fun K hK => ?_)
          go_simp
          refine ⟨_, same_of (mul_any z y hz hy _), hK _ ?_⟩
          clear hK K
          repeat still_step
          refine wpStill_nil ?_
          go_wp2
          go_roundw
          case rel => exact ⟨k + 1, by omega, by go_num, byIn_step HI.out hlt (by rw [HS.out]) , HB2.out.drew.setCell (by show w.heap.size ≤ w.heap.size + 1 + 1 + 1; omega) _⟩
          case measure => simp [intOf]; omega
        · obtain rfl : k = 4 := by omega
          have ho' := byIn_end hin HF.out hlt
          have HO' := Lib.hid ho'
          have HB2 := Lib.hid hb
          clear hin hb ho'
          go_wp2
          go_roundw
          case rel => exact ⟨i + 1, by omega, by go_num, HO'.out, HB2.out⟩
          case measure => simp [intOf]; omega
    · obtain rfl : i = 4 := by omega
      have h1 := ho.out
      have e1 : upd (byF R c) [0, 0, 0, 0] 4 = byRows R c := upd_all (byF R c) [0, 0, 0, 0]
      rw [e1] at h1
      have h2 := ho.res
      have H1 := Lib.hid h1
      have H2 := Lib.hid h2
      have HB2 := Lib.hid hb
      have HS := Lib.hid ho.size
      clear h1 h2 hb ho e1 hsz
      go_wp2_with (first
        | (refine wpList_loadB (o := ⟨some 32, _, _, _, _, _⟩) rfl 200 (.tmp 5) rfl _ rfl H1.out Try.underlying200 (by rw [byRows_len]; exact sz4) ?_)
        | (refine wpList_storeB (o := ⟨none, .store _ _ _, _, _, _, _⟩) rfl 200 (.tmp 4) (.tmp 32) rfl _ rfl (byRows R c) rfl H2.out (by rw [byRows_len]; exact sz4) (by rw [byRows_len]; rfl) ?_))
      refine bodyPost_ret (results_bts Try.results169 _ _ _ rfl (H2.out.row (byRows R c)) Try.underlying200 (by rw [byRows_len]; exact sz4)) rfl ?_
      exact ⟨rfl, Below.row HB2.out (by omega) _⟩

end Go.Proofs.Ythcjemcimfbnhaa
