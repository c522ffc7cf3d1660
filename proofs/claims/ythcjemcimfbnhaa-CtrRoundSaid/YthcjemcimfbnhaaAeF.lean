/-
  WALKS: the state's steps: add, each, shift.
-/
import Derived.Test.YthcjemcimfbnhaaAeE
namespace Go.Proofs.Ythcjemcimfbnhaa
open Go.RowKit
set_option linter.unusedVariables false

def z16 : List Nat := [0, 0, 0, 0, 0, 0, 0, 0, 0, 0, 0, 0, 0, 0, 0, 0]
/-- behind some rounds: the state that is changed, the result's place -/
structure St16 (B : Nat) (t : TypeId) (w0 w : World) (l : List Nat) : Prop where
  cur : Bk w B t l
  res : Bk w (B + 1) t z16
  below : Below B w0 w
theorem St16.start (w : World) (t : TypeId) (s : List Nat) : St16 w.heap.size t w ((w.alloc (.cells (bts s) t)).alloc (.cells (bts z16) t)) s :=
  ⟨(Bk.newAt t s rfl).alloc _, Bk.newAt t z16 (by simp), ((Below.refl _ _).alloc (Nat.le_refl _) _).alloc (by simp) _⟩
theorem St16.set {B : Nat} {t : TypeId} {w0 w : World} {F : Nat → Nat} {s : List Nat} {k x : Nat} (h : St16 B t w0 w (upd F s k)) (hk : k < s.length) (hx : x = F k) :
    St16 B t w0 (w.drew.setCell ⟨B, k, none⟩ (.int .u8 (x : Int))) (upd F s (k + 1)) := by
  subst hx
  refine ⟨?_, h.res.drew.far (by omega) _, h.below.drew.setCell (Nat.le_refl _) _⟩
  have := h.cur.drew.set k (F k)
  rw [upd_step F s k hk] at this
  exact this
theorem upd_cell {F : Nat → Nat} {s : List Nat} {k : Nat} (hk : k < s.length) : (upd F s k)[k]?.getD 0 = s[k]?.getD 0 := by
  rw [upd_get F s k k hk, if_neg (Nat.lt_irrefl _)]

theorem szSt : (Try.prog.info? 208).map (·.size) = some 16 := by kernel_rfl
/-- a place in a state: its column and its row, as the walk asks them -/
theorem quarters (k : Nat) (hk : k < 16) : ∃ q p : Nat, k = q * 4 + p ∧ IntKind.i64.wrap ((k : Int) / 4) = (q : Int) ∧ (k : Int).tmod 4 = (p : Int) ∧ q < 4 ∧ p < 4 ∧ (q : Int) < 4 ∧ (p : Int) < 4 := by
  refine ⟨k / 4, k % 4, by omega, ?_, ?_, by omega, by omega, by omega, by omega⟩
  · rw [IntWalk.i64_in _ (by omega)]; omega
  · rw [Int.tmod_eq_emod_of_nonneg (by omega)]; omega

def addF (s W : List Nat) (o i : Nat) : Nat := s[i]?.getD 0 ^^^ W[o + i]?.getD 0
def addK (s W : List Nat) (o : Nat) : List Nat := (List.range 16).map (addF s W o)
theorem addK_len (s W : List Nat) (o : Nat) : (addK s W o).length = 16 := by simp [addK]
theorem addK_byt {s W : List Nat} (hs : Byt s) (hW : Byt W) (o : Nat) : Byt (addK s W o) := by
  intro x hx
  simp only [addK, List.mem_map, List.mem_range] at hx
  obtain ⟨i, _, rfl⟩ := hx
  exact xor_lt (hs.get i) (hW.get _)

set_option maxRecDepth 100000 in
set_option maxHeartbeats 1000000 in
theorem add_any (s W : List Nat) (g o c : Nat) (hs : Byt s) (ls : s.length = 16) (hW : Byt W) (w : World) (hg : Bk w g 200 W) (hl : o + 16 ≤ W.length) :
    Calls Try.prog 149 #[.agg (bts s), .slice (some ⟨g, o, none⟩) 4 c] w fun e w' => e = .returned (.agg (bts (addK s W o))) ∧ Below w.heap.size w w' := by
  have LS := Lib.hid ls
  have HG := Lib.hid hg
  have hglt := hg.lt
  clear ls hg
  have hst := Lib.hid (St16.start w 208 s)
  go_enter Try.func149, Try.ntmps149
  go_wp2_with fail
  go_loopw [6] (fun j wr => ∃ k : Nat, k ≤ 16 ∧ j = .int .i64 k ∧ St16 w.heap.size 208 w wr (upd (addF s W o) s k)) (fun j _ => 16 - (intOf j).toNat)
  case atStart => exact ⟨0, by omega, rfl, by rw [upd_zero]; exact hst.out⟩
  case round =>
    obtain ⟨k, hk, rfl, hin⟩ := hrel
    clear hst
    by_cases hlt : k < 16
    · have hki : (k : Int) < 16 := by omega
      have c1 := hin.cur.cell (k := k) (by rw [upd_len, LS.out]; exact hlt)
      rw [upd_cell (by rw [LS.out]; exact hlt)] at c1
      have f1 := hin.cur.free k
      have c2 := (HG.out.below hin.below hglt).cell (k := o + k) (by omega)
      have hx := hs.get k
      have hy := hW.get (o + k)
      have hF : addF s W o k = s[k]?.getD 0 ^^^ W[o + k]?.getD 0 := rfl
      generalize s[k]?.getD 0 = x at c1 hx hF
      generalize W[o + k]?.getD 0 = y at c2 hy hF
      have hxo := bits_xor_u8 x y hx hy
      obtain ⟨q, p, hqp, hq0, hp0, hq1, hp1, hq2, hp2⟩ := quarters k hlt
      rw [hqp, ← Nat.add_assoc] at c2
      have HF := Lib.hid hF
      have HI := Lib.hid hin
      have HQ := Lib.hid hqp
      clear hF hin hqp
      go_wp2_with fail
      refine wp_still_tail 13 (by kernel_rfl) (by kernel_rfl) ?_
      simp only [List.take_succ_cons, List.take_zero, List.drop_succ_cons, List.drop_zero]
      repeat still_step
      refine wpStill_nil ?_
      clear hq0 hp0
      go_wp2
      go_roundw
      case rel => exact ⟨k + 1, by omega, by go_num, HI.out.set (by rw [LS.out]; exact hlt) (by rw [HF.out])⟩
      case measure => simp [intOf]; omega
    · obtain rfl : k = 16 := by omega
      have h1 := hin.cur
      have e1 : upd (addF s W o) s 16 = addK s W o := by
        have := upd_all (addF s W o) s
        rw [LS.out] at this
        exact this
      rw [e1] at h1
      have H1 := Lib.hid h1
      have H2 := Lib.hid hin.res
      have HB2 := Lib.hid hin.below
      clear h1 hin e1
      go_wp2_with (first
        | (refine wpList_loadB (o := ⟨some 23, _, _, _, _, _⟩) rfl 208 (.tmp 2) rfl _ rfl H1.out Try.underlying208 (by rw [addK_len]; exact szSt) ?_)
        | (refine wpList_storeB (o := ⟨none, .store _ _ _, _, _, _, _⟩) rfl 208 (.tmp 4) (.tmp 23) rfl _ rfl (addK s W o) rfl H2.out (by rw [addK_len]; exact szSt) (by rw [addK_len]; rfl) ?_))
      refine bodyPost_ret (results_bts Try.results149 _ _ _ rfl (H2.out.row (addK s W o)) Try.underlying208 (by rw [addK_len]; exact szSt)) rfl ?_
      exact ⟨rfl, Below.row HB2.out (by omega) _⟩

/-! each -/
def eachF (T : Nat → Nat) (s : List Nat) (i : Nat) : Nat := T (s[i]?.getD 0)
def eachK (T : Nat → Nat) (s : List Nat) : List Nat := (List.range 16).map (eachF T s)
theorem eachK_len (T : Nat → Nat) (s : List Nat) : (eachK T s).length = 16 := by simp [eachK]
theorem eachK_byt {T : Nat → Nat} {s : List Nat} (hs : Byt s) (hT : ∀ x, x < 256 → T x < 256) : Byt (eachK T s) := by
  intro x hx
  simp only [eachK, List.mem_map, List.mem_range] at hx
  obtain ⟨i, _, rfl⟩ := hx
  exact hT _ (hs.get i)
/-- a table of 256 bytes at a place -/
def TabAt (w : World) (g o : Nat) (T : Nat → Nat) : Prop := g < w.heap.size ∧ ∀ x, x < 256 → w.cell? ⟨g, o + x, none⟩ = some (.int .u8 (T x : Nat))
theorem TabAt.below {w w' : World} {g o : Nat} {T : Nat → Nat} (h : TabAt w g o T) (hb : Below w.heap.size w w') : TabAt w' g o T :=
  ⟨Nat.lt_of_lt_of_le h.1 hb.size, fun x hx => (hb.cell (p := ⟨g, o + x, none⟩) h.1).trans (h.2 x hx)⟩

set_option maxRecDepth 100000 in
set_option maxHeartbeats 1000000 in
theorem each_any (T : Nat → Nat) (s : List Nat) (g o : Nat) (hs : Byt s) (ls : s.length = 16) (hT : ∀ x, x < 256 → T x < 256) (w : World) (ht : TabAt w g o T) :
    Calls Try.prog 150 #[.agg (bts s), .pointer (some ⟨g, o, none⟩)] w fun e w' => e = .returned (.agg (bts (eachK T s))) ∧ Below w.heap.size w w' := by
  have LS := Lib.hid ls
  have HG := Lib.hid ht
  clear ls ht
  have hst := Lib.hid (St16.start w 208 s)
  go_enter Try.func150, Try.ntmps150
  go_wp2_with fail
  go_loopw [6] (fun j wr => ∃ k : Nat, k ≤ 16 ∧ j = .int .i64 k ∧ St16 w.heap.size 208 w wr (upd (eachF T s) s k)) (fun j _ => 16 - (intOf j).toNat)
  case atStart => exact ⟨0, by omega, rfl, by rw [upd_zero]; exact hst.out⟩
  case round =>
    obtain ⟨k, hk, rfl, hin⟩ := hrel
    clear hst
    by_cases hlt : k < 16
    · have hki : (k : Int) < 16 := by omega
      have c1 := hin.cur.cell (k := k) (by rw [upd_len, LS.out]; exact hlt)
      rw [upd_cell (by rw [LS.out]; exact hlt)] at c1
      have f1 := hin.cur.free k
      have hx := hs.get k
      have hF : eachF T s k = T (s[k]?.getD 0) := rfl
      generalize s[k]?.getD 0 = x at c1 hx hF
      have hxi : (x : Int) < 256 := by omega
      have c2 := (HG.out.below hin.below).2 x hx
      generalize T x = y at c2 hF
      have HF := Lib.hid hF
      have HI := Lib.hid hin
      clear hF hin
      go_wp2_with fail
      refine wp_still_tail 9 (by kernel_rfl) (by kernel_rfl) ?_
      simp only [List.take_succ_cons, List.take_zero, List.drop_succ_cons, List.drop_zero]
      repeat still_step
      refine wpStill_nil ?_
      go_wp2
      go_roundw
      case rel => exact ⟨k + 1, by omega, by go_num, HI.out.set (by rw [LS.out]; exact hlt) (by rw [HF.out])⟩
      case measure => simp [intOf]; omega
    · obtain rfl : k = 16 := by omega
      have h1 := hin.cur
      have e1 : upd (eachF T s) s 16 = eachK T s := by
        have := upd_all (eachF T s) s
        rw [LS.out] at this
        exact this
      rw [e1] at h1
      have H1 := Lib.hid h1
      have H2 := Lib.hid hin.res
      have HB2 := Lib.hid hin.below
      clear h1 hin e1
      go_wp2_with (first
        | (refine wpList_loadB (o := ⟨some 19, _, _, _, _, _⟩) rfl 208 (.tmp 2) rfl _ rfl H1.out Try.underlying208 (by rw [eachK_len]; exact szSt) ?_)
        | (refine wpList_storeB (o := ⟨none, .store _ _ _, _, _, _, _⟩) rfl 208 (.tmp 4) (.tmp 19) rfl _ rfl (eachK T s) rfl H2.out (by rw [eachK_len]; exact szSt) (by rw [eachK_len]; rfl) ?_))
      refine bodyPost_ret (results_bts Try.results150 _ _ _ rfl (H2.out.row (eachK T s)) Try.underlying208 (by rw [eachK_len]; exact szSt)) rfl ?_
      exact ⟨rfl, Below.row HB2.out (by omega) _⟩

end Go.Proofs.Ythcjemcimfbnhaa
