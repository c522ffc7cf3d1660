/-
  WALKS: ctr.Next.
-/
import Derived.Test.YtpofndciepoooaaCtC
import Derived.Test.YtpofndciepoooaaLaC
namespace Go.Proofs.Ytpofndciepoooaa
open Go.RowKit
set_option linter.unusedVariables false

theorem nextC_splice (c : List Nat) (lc : c.length = 16) (q : Nat) (hq : q = (numB (c.drop 12) + 1) % 4294967296) : c.take 12 ++ (digB q 4 ++ c.drop (12 + 4)) = nextC c := by
  unfold nextC
  rw [List.drop_of_length_le (l := c) (by omega), List.append_nil, hq]
set_option maxRecDepth 100000 in
set_option maxHeartbeats 1000000 in
theorem next_any (c : List Nat) (hc : Byt c) (lc : c.length = 16) (w : World) :
    Calls Try.prog 24 #[.agg (bts c)] w fun e w' => e = .returned (.agg (bts (nextC c))) ∧ Below w.heap.size w w' := by
  have hk1 : Bk ((w.alloc (.cells (bts c) 23)).alloc (.cells (bts z16) 23)) w.heap.size 23 c := (Bk.new w _ c).alloc _
  have hk2 : Bk ((w.alloc (.cells (bts c) 23)).alloc (.cells (bts z16) 23)) (w.heap.size + 1) 23 z16 := Bk.newAt _ z16 (by simp)
  have hbl : Below w.heap.size w ((w.alloc (.cells (bts c) 23)).alloc (.cells (bts z16) 23)) := ((Below.refl _ _).alloc (Nat.le_refl _) _).alloc (by simp) _
  have h1 : ∀ i, i < 4 → ((w.alloc (.cells (bts c) 23)).alloc (.cells (bts z16) 23)).cell? ⟨w.heap.size, 12 + i, none⟩ = some (.int .u8 (at' (c.drop 12) i : Nat)) := fun i hi => by
    rw [show at' (c.drop 12) i = c[12 + i]?.getD 0 by simp [at', List.getElem?_drop]]
    exact hk1.cell (by omega)
  have ll : (c.drop 12).length = 4 := by simp [lc]
  have bl : Byt (c.drop 12) := fun x hx => hc x (List.mem_of_mem_drop hx)
  have hm := numB_drop12 hc lc
  have lz : (nextC c).length = 16 := nextC_len lc
  obtain ⟨q, hq⟩ : ∃ q, q = (numB (c.drop 12) + 1) % 4294967296 := ⟨_, rfl⟩
  have hsp := nextC_splice c lc q hq
  have hq32 : q < 4294967296 := by rw [hq]; exact Nat.mod_lt _ (by decide)
  have hw2 : IntKind.u32.wrap ((numB (c.drop 12) : Int) + 1) = (q : Int) := by
    have := wrap_u32m (numB (c.drop 12) + 1)
    rw [hq]
    exact this
  have hw1 := wrap_u64' (n := 4294967297) (by decide) ((numB (c.drop 12) : Int) + 1) (by omega) (by omega)
  have hw3 := wrap_u64' (n := 4294967297) (by decide) (q : Int) (by omega) (by omega)
  have K1 := Lib.hid hk1
  have K2 := Lib.hid hk2
  have K3 := Lib.hid hbl
  have H1 := Lib.hid h1
  have LL := Lib.hid ll
  have LZ := Lib.hid lz
  have SP := Lib.hid hsp
  have LC := Lib.hid lc
  have HQ : Hid (q < 256 ^ 4) := Lib.hid hq32
  clear hk1 hk2 hbl h1 ll lz hsp lc hq
  generalize nextC c = z at *
  generalize hD : c.drop 12 = D at *
  clear hD
  generalize hM : numB D = m at *
  have HM := Lib.hid hM
  clear hM
  go_enter Try.func24, Try.ntmps24
  go_wp2_with fail
  refine (get_any w.heap.size 12 4 4 D _ H1.out LL.out bl (by decide) (by decide)).mono ?_
  rintro e w' ⟨rfl, rfl⟩
  rw [HM.out]
  go_wp2_with fail
  refine (put_any q 4 _ (by omega) (by decide) (by decide) HQ.out).mono ?_
  rintro e w1 ⟨rfl, hbk, hbw⟩
  have R1 : Hid (Bk w1 w.heap.size 23 c) := Lib.hid (K1.out.ab hbw)
  have R2 : Hid (Bk w1 (w.heap.size + 1) 23 z16) := Lib.hid (K2.out.ab hbw)
  have R3 : Hid (Below w.heap.size w w1) := Lib.hid (K3.out.trans (hbw.mono K3.out.size))
  have R4 : Hid (IsB w1 (some ⟨w.heap.size + 1 + 1, 0, none⟩) 4 4 (digB q 4)) := Lib.hid (by
    have := Bk.isB hbk (digB_byt q 4) 4 4 (by rw [digB_len]; exact Nat.le_refl _) (by decide) (by decide)
    rw [List.take_of_length_le (by rw [digB_len]; exact Nat.le_refl _)] at this
    simpa using this)
  have LD : Hid (12 + 4 ≤ c.length) := Lib.hid (by rw [LC.out]; decide)
  clear hbk hbw
  go_wp2_with (first
    | (refine wpList_copyB (o := ⟨_, .call ⟨.builtin .copy, _, _⟩, _, _, _, _⟩) rfl _ _ rfl w.heap.size 12 4 4 R1.out rfl rfl R4.out (by decide) (by decide) LD.out z SP.out ?_
       intro w2 hw2
       have T1 : Hid (Bk w2 w.heap.size 23 z) := Lib.hid (by rw [hw2]; exact R1.out.row _)
       have T2 : Hid (Bk w2 (w.heap.size + 1) 23 z16) := Lib.hid (by rw [hw2]; exact R2.out.rowFar (c := w.heap.size) (by omega) _)
       have T3 : Hid (Below w.heap.size w w2) := Lib.hid (by rw [hw2]; exact Below.row R3.out (Nat.le_refl _) _)
       clear hw2)
    | (refine wpList_loadB (l := z) (o := ⟨some 23, _, _, _, _, _⟩) rfl 23 (.tmp 1) rfl w.heap.size rfl (t := 23) ?_ Try.underlying23 (by rw [LZ.out]; exact sz16) ?_
       · exact T1.out
       refine wpList_storeB (l := z16) (o := ⟨none, .store _ (.tmp 2) (.tmp 23), _, _, _, _⟩) rfl 23 (.tmp 2) (.tmp 23) rfl (w.heap.size + 1) rfl z rfl (t := 23) ?_ (by rw [LZ.out]; exact sz16) (by rw [LZ.out]; rfl) ?_
       · exact T2.out))
  refine bodyPost_ret (results_bts Try.results24 _ _ _ rfl (T2.out.row z) Try.underlying23 (by rw [LZ.out]; exact sz16)) rfl ?_
  exact ⟨rfl, Below.row T3.out (by omega) _⟩
end Go.Proofs.Ytpofndciepoooaa
