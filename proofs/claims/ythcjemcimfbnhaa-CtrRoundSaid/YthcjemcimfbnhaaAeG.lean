/-
  WALKS: the state's shift.
-/
import Derived.Test.YthcjemcimfbnhaaAeF
namespace Go.Proofs.Ythcjemcimfbnhaa
open Go.RowKit
set_option linter.unusedVariables false

def shiftF (by' : Nat) (s : List Nat) (i : Nat) : Nat := s[4 * ((i / 4 + by' * (i % 4)) % 4) + i % 4]?.getD 0
def shiftK (by' : Nat) (s : List Nat) : List Nat := (List.range 16).map (shiftF by' s)
theorem shiftK_len (b : Nat) (s : List Nat) : (shiftK b s).length = 16 := by simp [shiftK]
theorem shiftK_byt {b : Nat} {s : List Nat} (hs : Byt s) : Byt (shiftK b s) := by
  intro x hx
  simp only [shiftK, List.mem_map, List.mem_range] at hx
  obtain ⟨i, _, rfl⟩ := hx
  exact hs.get _
structure Sh16 (B : Nat) (t : TypeId) (w0 w : World) (s l : List Nat) : Prop where
  src : Bk w B t s
  cur : Bk w (B + 1 + 1) t l
  res : Bk w (B + 1) t z16
  below : Below B w0 w
theorem Sh16.start (w : World) (t : TypeId) (s : List Nat) : Sh16 w.heap.size t w (((w.alloc (.cells (bts s) t)).alloc (.cells (bts z16) t)).alloc (.cells (bts z16) t)) s z16 :=
  ⟨((Bk.newAt t s rfl).alloc _).alloc _, Bk.newAt t z16 (by simp), (Bk.newAt t z16 (by simp)).alloc _, (((Below.refl _ _).alloc (Nat.le_refl _) _).alloc (by simp) _).alloc (by simp; omega) _⟩
theorem Sh16.set {B : Nat} {t : TypeId} {w0 w : World} {F : Nat → Nat} {s : List Nat} {k x : Nat} (h : Sh16 B t w0 w s (upd F z16 k)) (hk : k < 16) (hx : x = F k) :
    Sh16 B t w0 (w.setCell ⟨B + 1 + 1, k, none⟩ (.int .u8 (x : Int))) s (upd F z16 (k + 1)) := by
  subst hx
  refine ⟨h.src.far (by omega) _, ?_, h.res.far (by omega) _, h.below.setCell (by show B ≤ B + 1 + 1; omega) _⟩
  have := h.cur.set k (F k)
  rw [upd_step F z16 k hk] at this
  exact this

set_option maxRecDepth 100000 in
set_option maxHeartbeats 1000000 in
theorem shift1_any (s : List Nat) (hs : Byt s) (ls : s.length = 16) (w : World) :
    Calls Try.prog 151 #[.agg (bts s), .int .i64 1] w fun e w' => e = .returned (.agg (bts (shiftK 1 s))) ∧ Below w.heap.size w w' := by
  have LS := Lib.hid ls
  clear ls
  go_enter Try.func151, Try.ntmps151
  go_wp2_with fail
  go_loopw [9] (fun j wr => ∃ k : Nat, k ≤ 16 ∧ j = .int .i64 k ∧ Sh16 w.heap.size 208 w wr s (upd (shiftF 1 s) z16 k)) (fun j _ => 16 - (intOf j).toNat)
  case atStart => exact ⟨0, by omega, rfl, by rw [upd_zero]; exact Sh16.start w _ s⟩
  case round =>
    obtain ⟨k, hk, rfl, hin⟩ := hrel
    by_cases hlt : k < 16
    · have hki : (k : Int) < 16 := by omega
      obtain ⟨q, p, hqp, hq0, hp0, hq1, hp1, hq2, hp2⟩ := quarters k hlt
      have hm : 4 * ((q + p) % 4) + p < 16 := by omega
      have c1 := hin.src.cell (k := 4 * ((q + p) % 4) + p) (by rw [LS.out]; exact hm)
      have f1 := hin.cur.free k
      have c2 := hin.cur.cell (k := k) (by rw [upd_len]; exact hlt)
      have hF : shiftF 1 s k = s[4 * ((q + p) % 4) + p]?.getD 0 := by
        unfold shiftF
        rw [show k / 4 = q from by omega, show k % 4 = p from by omega, Nat.one_mul]
      have hx := hs.get (4 * ((q + p) % 4) + p)
      have hmi : ((q : Int) + (p : Int)) % 4 = (((q + p) % 4 : Nat) : Int) := by omega
      generalize (q + p) % 4 = m at c1 hm hF hx hmi
      have hmj : 4 * (m : Int) + (p : Int) < 16 := by omega
      generalize s[4 * m + p]?.getD 0 = x at c1 hx hF
      have HF := Lib.hid hF
      have HI := Lib.hid hin
      have HQ := Lib.hid hqp
      clear hF hin hqp
      go_wp2
      go_roundw
      case rel => exact ⟨k + 1, by omega, by go_num, HI.out.set hlt (by rw [HF.out])⟩
      case measure => simp [intOf]; omega
    · obtain rfl : k = 16 := by omega
      have h1 := hin.cur
      have e1 : upd (shiftF 1 s) z16 16 = shiftK 1 s := upd_all (shiftF 1 s) z16
      rw [e1] at h1
      have H1 := Lib.hid h1
      have H2 := Lib.hid hin.res
      have HB2 := Lib.hid hin.below
      clear h1 hin e1
      go_wp2_with (first
        | (refine wpList_loadB (o := ⟨some 30, _, _, _, _, _⟩) rfl 208 (.tmp 5) rfl _ rfl H1.out Try.underlying208 (by rw [shiftK_len]; exact szSt) ?_)
        | (refine wpList_storeB (o := ⟨none, .store _ _ _, _, _, _, _⟩) rfl 208 (.tmp 4) (.tmp 30) rfl _ rfl (shiftK 1 s) rfl H2.out (by rw [shiftK_len]; exact szSt) (by rw [shiftK_len]; rfl) ?_))
      refine bodyPost_ret (results_bts Try.results151 _ _ _ rfl (H2.out.row (shiftK 1 s)) Try.underlying208 (by rw [shiftK_len]; exact szSt)) rfl ?_
      exact ⟨rfl, Below.row HB2.out (by omega) _⟩

end Go.Proofs.Ythcjemcimfbnhaa
