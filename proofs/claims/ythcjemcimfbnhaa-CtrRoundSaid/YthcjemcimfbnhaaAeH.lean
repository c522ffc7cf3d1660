/-
  WALKS: the state's columns.
-/
import Derived.Test.YthcjemcimfbnhaaAeG
import Derived.Laws.CopyOwn
namespace Go.Proofs.Ythcjemcimfbnhaa
open Go.RowKit
set_option linter.unusedVariables false

def colF (H : List Nat → List Nat) (s : List Nat) (i : Nat) : Nat := (H (rowOf s (i / 4)))[i % 4]?.getD 0
def colK (H : List Nat → List Nat) (s : List Nat) : List Nat := (List.range 16).map (colF H s)
theorem colK_len (H : List Nat → List Nat) (s : List Nat) : (colK H s).length = 16 := by simp [colK]
theorem colK_byt {H : List Nat → List Nat} {s : List Nat} (hH : ∀ c, Byt (H c)) : Byt (colK H s) := by
  intro x hx
  simp only [colK, List.mem_map, List.mem_range] at hx
  obtain ⟨i, _, rfl⟩ := hx
  exact (hH _).get _
theorem col_copy (H : List Nat → List Nat) (s : List Nat) (j : Nat) (hs : s.length = 16) (hj : j < 4) (hH : (H (rowOf s j)).length = 4) :
    (upd (colF H s) s (4 * j)).take (4 * j) ++ (H (rowOf s j) ++ (upd (colF H s) s (4 * j)).drop (4 * j + 4)) = upd (colF H s) s (4 * (j + 1)) := by
  apply List.ext_getElem (by simp [upd_len, hs, hH]; omega)
  intro i h1 h2
  have hi : i < 16 := by rw [upd_len, hs] at h2; exact h2
  have hR : (upd (colF H s) s (4 * (j + 1)))[i] = if i < 4 * (j + 1) then colF H s i else s[i]?.getD 0 := by
    have := upd_get (colF H s) s (4 * (j + 1)) i (by omega)
    rw [List.getElem?_eq_getElem h2] at this
    exact this
  have hU : ∀ (m : Nat) (hm : m < (upd (colF H s) s (4 * j)).length), (upd (colF H s) s (4 * j))[m] = if m < 4 * j then colF H s m else s[m]?.getD 0 := by
    intro m hm
    have := upd_get (colF H s) s (4 * j) m (by rw [upd_len] at hm; exact hm)
    rw [List.getElem?_eq_getElem hm] at this
    exact this
  rw [hR]
  have ht : ((upd (colF H s) s (4 * j)).take (4 * j)).length = 4 * j := by simp [upd_len, hs]; omega
  by_cases ha : i < 4 * j
  · rw [List.getElem_append_left (by omega), List.getElem_take, hU, if_pos ha, if_pos (by omega)]
  · rw [List.getElem_append_right (by omega)]
    by_cases hb : i < 4 * j + 4
    · rw [List.getElem_append_left (by omega), if_pos (by omega)]
      unfold colF
      rw [show i / 4 = j from by omega, List.getElem?_eq_getElem (by omega)]
      simp only [Option.getD_some]
      congr 1
      have ht' : ((upd (fun i => (H (rowOf s (i / 4)))[i % 4]?.getD 0) s (4 * j)).take (4 * j)).length = 4 * j := ht
      rw [ht']
      omega
    · rw [List.getElem_append_right (by omega), List.getElem_drop, hU, if_neg (by omega), if_neg (by omega)]
      congr 2
      rw [ht, hH]
      omega
theorem bts_splice (l c : List Nat) (k m : Nat) : ((bts l).toList.take k ++ (c.map (fun n : Nat => Value.int .u8 (n : Int)) ++ (bts l).toList.drop m)).toArray = bts (l.take k ++ (c ++ l.drop m)) := by
  simp [bts, List.map_take, List.map_drop]
theorem col_row (H : List Nat → List Nat) (s : List Nat) (j : Nat) (hs : s.length = 16) (hj : j < 4) (i : Nat) (v : Value) (hv : ((rowOf s j).map (fun n : Nat => Value.int .u8 (n : Int)))[i]? = some v) :
    i < 4 ∧ v = .int .u8 ((upd (colF H s) s (4 * j))[4 * j + i]?.getD 0 : Nat) := by
  rw [List.getElem?_map] at hv
  have hi : i < 4 := by
    have hl : (rowOf s j).length = 4 := by simp [rowOf, hs]; omega
    by_cases h : i < 4
    · exact h
    · rw [List.getElem?_eq_none (by omega)] at hv; simp at hv
  refine ⟨hi, ?_⟩
  rw [upd_get _ _ _ _ (by omega), if_neg (by omega)]
  simp only [rowOf, List.getElem?_take, if_pos hi, List.getElem?_drop] at hv
  rw [List.getElem?_eq_getElem (by omega)] at hv ⊢
  simpa using hv.symm
theorem St16.cols {B : Nat} {t : TypeId} {w0 w : World} {H : List Nat → List Nat} {s : List Nat} {j : Nat} (h : St16 B t w0 w (upd (colF H s) s (4 * j))) (hs : s.length = 16) (hj : j < 4) (hH : (H (rowOf s j)).length = 4) (cs : Array Value)
    (hc : cs = ((bts (upd (colF H s) s (4 * j))).toList.take (4 * j) ++ ((H (rowOf s j)).map (fun n : Nat => Value.int .u8 (n : Int)) ++ (bts (upd (colF H s) s (4 * j))).toList.drop (4 * j + 4))).toArray) :
    St16 B t w0 (w.setRow B cs) (upd (colF H s) s (4 * (j + 1))) := by
  rw [bts_splice, col_copy H s j hs hj hH] at hc
  subst hc
  exact ⟨h.cur.row _, h.res.rowFar (by omega) _, Below.row h.below (Nat.le_refl _) _⟩
theorem szByte : (Try.prog.info? 5).map (·.size) = some 1 := by kernel_rfl
theorem st_under : Try.prog.underlying 208 = some (.array (Try.prog.arrayLen 208) (Try.prog.elem 208)) := by kernel_rfl
theorem st_alen : Try.prog.arrayLen 208 = 16 := by kernel_rfl
theorem st_size (w : World) : (sizeOf (Try.prog.elem 208)).run Try.prog w = .ok 1 w := by
  have h : (Try.prog.info? (Try.prog.elem 208)).map (·.size) = some 1 := by kernel_rfl
  cases hq : Try.prog.info? (Try.prog.elem 208) with
  | none => rw [hq] at h; cases h
  | some i => rw [hq] at h; simp only [Option.map_some, Option.some.injEq] at h; simp [sizeOf, typeInfo, hq, h]
theorem st_cut (W : World) (b q : Nat) (hq : q ≤ 12) : (Instr.sliceAt 208 (.pointer (some ⟨b, 0, none⟩)) (some (.int .i64 (q : Int))) (some (.int .i64 ((q : Int) + 4))) none).run Try.prog W = .ok (.slice (some ⟨b, q, none⟩) 4 (16 - q)) W := by
  rw [run_sliceAt_array_lh W 208 ⟨b, 0, none⟩ st_under .i64 .i64 q (q + 4) (by omega) (by omega) (by rw [st_alen]; omega), st_size, st_alen]
  simp only [Result.andThen_ok, slicedAt, Int.toNat_natCast, Nat.mul_one, Addr.add_mid, Nat.zero_add]
  rw [if_neg (by omega), show ((q : Int) + 4).toNat - q = 4 from by omega]
theorem st_from (W : World) (b q : Nat) (hq : q ≤ 12) : (Instr.sliceAt 208 (.pointer (some ⟨b, 0, none⟩)) (some (.int .i64 (q : Int))) none none).run Try.prog W = .ok (.slice (some ⟨b, q, none⟩) (16 - q) (16 - q)) W := by
  rw [run_sliceAt_array_l W 208 ⟨b, 0, none⟩ st_under .i64 q (by omega) (by rw [st_alen]; omega), st_size, st_alen]
  simp only [Result.andThen_ok, slicedAt, Int.toNat_natCast, Nat.mul_one, Addr.add_mid, Nat.zero_add]
  rw [if_neg (by omega)]
theorem arr4 (W : World) (a : Addr) (c : Nat) : (Instr.arrayAt 200 (.slice (some a) 4 c)).run Try.prog W = .ok (.pointer (some a)) W := by
  have hu := Try.underlying200
  simp [Instr.arrayAt, run_underlying hu]

set_option maxRecDepth 100000 in
set_option maxHeartbeats 1000000 in
theorem columns_mix (s : List Nat) (hs : Byt s) (ls : s.length = 16) (w : World) :
    Calls Try.prog 152 #[.agg (bts s), .func (.func 153) #[] #[]] w fun e w' => e = .returned (.agg (bts (colK mix s))) ∧ Below w.heap.size w w' := by
  have LS := Lib.hid ls
  clear ls
  have hst := Lib.hid (St16.start w 208 s)
  go_enter Try.func152, Try.ntmps152
  go_wp2_with fail
  go_loopw [5] (fun j wr => ∃ k : Nat, k ≤ 4 ∧ j = .int .i64 (4 * k : Nat) ∧ St16 w.heap.size 208 w wr (upd (colF mix s) s (4 * k))) (fun j _ => 16 - (intOf j).toNat)
  case atStart => exact ⟨0, by omega, rfl, by rw [Nat.mul_zero, upd_zero]; exact hst.out⟩
  case round =>
    obtain ⟨k, hk, rfl, hin⟩ := hrel
    clear hst
    by_cases hlt : k < 4
    · have lr : (rowOf s k).length = 4 := by
        have := LS.out
        simp [rowOf]
        omega
      have hrng : wr.rangeAt w.heap.size (4 * k) ((rowOf s k).map (fun n : Nat => Value.int .u8 (n : Int))) := by
        intro i v hv
        obtain ⟨hi, rfl⟩ := col_row mix s k LS.out hlt i v hv
        exact hin.cur.cell (by rw [upd_len, LS.out]; omega)
      have hrb := rowOf_byt hs k
      have hbig : w.heap.size < wr.heap.size := hin.cur.lt
      have HR := Lib.hid hrng
      have HI := Lib.hid hin
      have HL := Lib.hid lr
      clear hrng hin lr
      obtain ⟨q, hq⟩ : ∃ q, 4 * k = q := ⟨_, rfl⟩
      have hqi : (q : Int) < 16 := by omega
      rw [hq] at HR
      have HQ := Lib.hid hq
      simp only [hq]
      have hq4 : q ≤ 12 := by omega
      have hq5 : (q : Int) + 4 ≤ 16 := by omega
      have hq6 : ¬ (16 = q) := by omega
      clear hq
      have sl1 := fun W => st_cut W w.heap.size q hq4
      have sl2 := fun W => st_from W w.heap.size q hq4
      have sl3 := arr4
      go_wp2_with (first
        | (refine wpList_load_mid (op := ⟨some 17, _, _, _, _, _⟩) rfl 200 (.tmp 16) rfl w.heap.size q rfl _ _ HR.out Try.underlying200 rfl (by rw [List.length_map, HL.out]; exact sz4) ?_))
      refine (mix_any (rowOf s k) hrb HL.out _).mono ?_
      rintro e w1 ⟨rfl, hb⟩
      have h1 : St16 w.heap.size 208 w w1 (upd (colF mix s) s (4 * k)) := ⟨HI.out.cur.below hb hbig, HI.out.res.below hb HI.out.res.lt, HI.out.below.trans (hb.mono HI.out.below.size)⟩
      have hbig1 : w.heap.size < w1.heap.size := h1.cur.lt
      have H1 := Lib.hid h1
      clear HI hb h1
      have hm : (mix (rowOf s k)).length = 4 := mix_len _
      have HM := Lib.hid hm
      generalize hme : mix (rowOf s k) = m at hm HM
      have HME := Lib.hid hme
      clear hme hm
      go_wp2_with (refine wpList_storeB (o := ⟨none, .store _ _ _, _, _, _, _⟩) rfl 200 (.tmp 6) (.tmp 18) rfl _ rfl m rfl (Bk.new w1 200 [0, 0, 0, 0]) (by rw [HM.out]; exact sz4) (by rw [HM.out]; rfl) ?_)
      refine wp_still_tail 3 (by kernel_rfl) (by kernel_rfl) ?_
      simp only [List.take_succ_cons, List.take_zero, List.drop_succ_cons, List.drop_zero]
      repeat still_step
      refine wpStill_nil ?_
      have hW : St16 w.heap.size 208 w ((w1.alloc (.cells (bts [0, 0, 0, 0]) 200)).setRow w1.heap.size (bts m)).drew (upd (colF mix s) s (4 * k)) :=
        ⟨((H1.out.cur.alloc _).rowFar (by omega) _).drew, ((H1.out.res.alloc _).rowFar (by have := H1.out.res.lt; omega) _).drew, (Below.row (H1.out.below.alloc H1.out.below.size _) H1.out.below.size _).drew⟩
      have hS : Bk ((w1.alloc (.cells (bts [0, 0, 0, 0]) 200)).setRow w1.heap.size (bts m)).drew w1.heap.size 200 m := ((Bk.new w1 200 [0, 0, 0, 0]).row m).drew
      refine wpList_copy_own (o := ⟨some 22, _, _, _, _, _⟩) rfl (.tmp 20) (.tmp 21) 22 22 rfl 5 Try.underlying22 szByte w.heap.size q _ _ ⟨w1.heap.size, 0, none⟩ 4 4 rfl rfl _ 208 hW.cur (m.map (fun n : Nat => Value.int .u8 (n : Int)))
        (by rw [List.length_map, HM.out]; show 4 = min 4 (16 - q); omega) ?_ (by rw [List.length_map, HM.out, bts_size, upd_len, LS.out]; omega) (by simp [Value.oneCell']) ?_
      · intro i v hv
        rw [List.getElem?_map] at hv
        have hi : i < 4 := by
          by_cases h : i < 4
          · exact h
          · rw [List.getElem?_eq_none (by rw [HM.out]; omega)] at hv; simp at hv
        rw [List.getElem?_eq_getElem (by rw [HM.out]; exact hi)] at hv
        rw [Addr.add_mid, Nat.zero_add]
        refine (hS.cell (by rw [HM.out]; exact hi)).trans ?_
        rw [List.getElem?_eq_getElem (by rw [HM.out]; exact hi)]
        simpa using hv
      have hlen : (m.map (fun n : Nat => Value.int .u8 (n : Int))).length = 4 := by rw [List.length_map, HM.out]
      have hN : St16 w.heap.size 208 w (((w1.alloc (.cells (bts [0, 0, 0, 0]) 200)).setRow w1.heap.size (bts m)).drew.setRow w.heap.size ((bts (upd (colF mix s) s (4 * k))).toList.take q ++ ((m.map (fun n : Nat => Value.int .u8 (n : Int))) ++ (bts (upd (colF mix s) s (4 * k))).toList.drop (q + (m.map (fun n : Nat => Value.int .u8 (n : Int))).length))).toArray) (upd (colF mix s) s (4 * (k + 1))) := by
        have hN := St16.cols hW LS.out hlt (by rw [HME.out]; exact HM.out) _ rfl
        rw [HME.out] at hN
        have e := HQ.out
        subst e
        rw [hlen]
        exact hN
      rw [show (m.map (fun n : Nat => Value.int .u8 (n : Int))).length = 4 from hlen] at hN ⊢
      generalize ((bts (upd (colF mix s) s (4 * k))).toList.take q ++ (m.map (fun n : Nat => Value.int .u8 (n : Int)) ++ (bts (upd (colF mix s) s (4 * k))).toList.drop (q + 4))).toArray = cells at hN ⊢
      have HN := Lib.hid hN
      clear hN hlen hW hS sl1 sl2 sl3
      go_wp2
      go_roundw
      case rel => exact ⟨k + 1, by omega, by have := HQ.out; rw [show 4 * (k + 1) = q + 4 from by omega]; go_num, HN.out⟩
      case measure => have := HQ.out; simp [intOf]; omega
    · obtain rfl : k = 4 := by omega
      have h1 := hin.cur
      have e1 : upd (colF mix s) s (4 * 4) = colK mix s := by
        have := upd_all (colF mix s) s
        rw [LS.out] at this
        exact this
      rw [e1] at h1
      have H1 := Lib.hid h1
      have H2 := Lib.hid hin.res
      have HB2 := Lib.hid hin.below
      clear h1 hin e1
      go_wp2_with (first
        | (refine wpList_loadB (o := ⟨some 23, _, _, _, _, _⟩) rfl 208 (.tmp 2) rfl _ rfl H1.out Try.underlying208 (by rw [colK_len]; exact szSt) ?_)
        | (refine wpList_storeB (o := ⟨none, .store _ _ _, _, _, _, _⟩) rfl 208 (.tmp 4) (.tmp 23) rfl _ rfl (colK mix s) rfl H2.out (by rw [colK_len]; exact szSt) (by rw [colK_len]; rfl) ?_))
      refine bodyPost_ret (results_bts Try.results152 _ _ _ rfl (H2.out.row (colK mix s)) Try.underlying208 (by rw [colK_len]; exact szSt)) rfl ?_
      exact ⟨rfl, Below.row HB2.out (by omega) _⟩

end Go.Proofs.Ythcjemcimfbnhaa
