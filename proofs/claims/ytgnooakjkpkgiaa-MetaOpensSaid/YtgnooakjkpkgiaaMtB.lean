/-
  META PAGES: the payload: walk of Encode.
-/
import Derived.Test.YtgnooakjkpkgiaaMtA
import Derived.Test.YtgnooakjkpkgiaaApZ
namespace Go.Proofs.Ytgnooakjkpkgiaa
open Go.RowKit
set_option linter.unusedVariables false

def fldM (m : Mp) : List (Nat × Nat) := [(m.cm, 8), (m.pg, 4), (m.rc, 8), (m.rg, 2), (m.lv, 1), (m.gn, 2), (m.tn, 4)]
def mbytes (m : Mp) : List Nat := flatN (fldM m) ++ zeros 195
theorem fldM_len (m : Mp) : (flatN (fldM m)).length = 29 := by simp [fldM, flatN, digB_len]
theorem mbytes_len (m : Mp) : (mbytes m).length = 224 := by rw [mbytes, List.length_append, fldM_len, zeros_len]
theorem fldM_ok {m : Mp} (h : m.Ok) : NumOk (fldM m) := by
  have h1 := h.cm; have h2 := h.pg; have h3 := h.rc; have h4 := h.rg; have h5 := h.lv; have h6 := h.gn; have h7 := h.tn
  intro p hp
  simp only [fldM, List.mem_cons, List.not_mem_nil, or_false] at hp
  rcases hp with rfl | rfl | rfl | rfl | rfl | rfl | rfl <;> simp only <;> omega
def rowF (ps : List (Nat × Nat)) : Array Value := (ps.flatMap fun p => [Value.int .u64 (p.1 : Int), Value.int .i64 (p.2 : Int)]).toArray
theorem rowF_at : ∀ (ps : List (Nat × Nat)) (j : Nat) (p : Nat × Nat), ps[j]? = some p → (ps.flatMap fun p => [Value.int .u64 (p.1 : Int), Value.int .i64 (p.2 : Int)])[j * 2]? = some (.int .u64 (p.1 : Int)) ∧ (ps.flatMap fun p => [Value.int .u64 (p.1 : Int), Value.int .i64 (p.2 : Int)])[j * 2 + 1]? = some (.int .i64 (p.2 : Int))
  | [], j, p, h => by simp at h
  | q :: ps, 0, p, h => by
    simp only [List.getElem?_cons_zero, Option.some.injEq] at h
    subst h
    exact ⟨rfl, rfl⟩
  | q :: ps, j + 1, p, h => by
    have := rowF_at ps j p (by simpa using h)
    rw [show (j + 1) * 2 = j * 2 + 1 + 1 by omega]
    exact this
def FldB (w : World) (g : Nat) (ps : List (Nat × Nat)) : Prop := w.heap[g]? = some (.cells (rowF ps) 175 (0, 0))
theorem FldB.lt {w : World} {g : Nat} {ps : List (Nat × Nat)} (h : FldB w g ps) : g < w.heap.size := lt_of_block h
theorem FldB.low {w w' : World} {g C : Nat} {ps : List (Nat × Nat)} (h : FldB w g ps) (hb : Below C w w') (hC : g < C) : FldB w' g ps := (hb.block g hC).trans h
theorem FldB.at {w : World} {g : Nat} {ps : List (Nat × Nat)} (h : FldB w g ps) {j : Nat} {p : Nat × Nat} (hj : ps[j]? = some p) : w.cell? ⟨g, j * 2, none⟩ = some (.int .u64 (p.1 : Int)) ∧ w.cell? ⟨g, j * 2 + 1, none⟩ = some (.int .i64 (p.2 : Int)) := by
  have := rowF_at ps j p hj
  rw [cell_of_row w g _ _ _ (0, 0) h, cell_of_row w g _ _ _ (0, 0) h]
  simpa [rowF] using this
def encP (m : Mp) : List Nat × Nat := bif rightB m then (mbytes m, 0) else ([], 2)
set_option maxRecDepth 100000 in
set_option maxHeartbeats 4000000 in
theorem encode_any (m : Mp) (w : World) (hm : m.Ok) :
    Calls Try.prog 51 #[.agg (mpv m)] w (OutB w (encP m).1 (encP m).2) := by
  obtain ⟨i0, hi0, hz0, hz1, hz2⟩ := info_parts infoU8
  have hz3 : (Value.int .u8 0).cells = #[.int .u8 0] := rfl
  have HM := Lib.hid fun W => right_any m W
  have HO := Lib.hid (fldM_ok hm)
  have HL := Lib.hid (fldM_len m)
  unfold encP rightE at *
  cases hr : rightB m
  · simp only [cond_false]
    rw [hr] at HM
    obtain ⟨cm, pg, rc, rg, lv, gn, tn⟩ := m
    simp only [mpv] at HM ⊢
    clear hr hm
    go_enter Try.func51, Try.ntmps51
    go_wp2_with fail
    refine (HM.out _).mono ?_
    rintro e w1 ⟨rfl, hb⟩
    have B1 : Hid (Below w.heap.size w w1) := Lib.hid (((Below.refl _ _).alloc (Nat.le_refl _) _).trans (hb.mono (by simp)))
    clear hb
    go_wp2_with fail
    go_ret2
    exact OutB.refused 2 B1.out
  · simp only [cond_true]
    rw [hr] at HM
    have M0 := Lib.hid (MpB.new w m)
    have z1 : IntKind.u64.wrap (m.pg : Int) = (m.pg : Int) := wide_u64 m.pg (by have := hm.pg; omega)
    have z2 : IntKind.u64.wrap (m.rg : Int) = (m.rg : Int) := wide_u64 m.rg (by have := hm.rg; omega)
    have z3 : IntKind.u64.wrap (m.lv : Int) = (m.lv : Int) := wide_u64 m.lv (by have := hm.lv; omega)
    have z4 : IntKind.u64.wrap (m.gn : Int) = (m.gn : Int) := wide_u64 m.gn (by have := hm.gn; omega)
    have z5 : IntKind.u64.wrap (m.tn : Int) = (m.tn : Int) := wide_u64 m.tn (by have := hm.tn; omega)
    have HE : Hid (mbytes m = flatN (fldM m) ++ zeros 195) := Lib.hid rfl
    have HF : Hid (rowF (fldM m) = #[.int .u64 (m.cm : Int), .int .i64 8, .int .u64 (m.pg : Int), .int .i64 4, .int .u64 (m.rc : Int), .int .i64 8, .int .u64 (m.rg : Int), .int .i64 2, .int .u64 (m.lv : Int), .int .i64 1, .int .u64 (m.gn : Int), .int .i64 2, .int .u64 (m.tn : Int), .int .i64 4]) := Lib.hid rfl
    have HN : Hid ((fldM m).length = 7) := Lib.hid rfl
    generalize mbytes m = MB at *
    generalize fldM m = ps at *
    obtain ⟨cm, pg, rc, rg, lv, gn, tn⟩ := m
    simp only [mpv] at HM M0 z1 z2 z3 z4 z5 ⊢
    clear hr hm
    go_enter Try.func51, Try.ntmps51
    go_wp2_with fail
    refine (HM.out _).mono ?_
    rintro e w1 ⟨rfl, hb⟩
    have B1 : Hid (Below w.heap.size w w1) := Lib.hid (((Below.refl _ _).alloc (Nat.le_refl _) _).trans (hb.mono (by simp)))
    obtain ⟨c0, c1, c2, c3, c4, c5, c6⟩ := (M0.out.ab hb).cells
    have hz : w.heap.size < w1.heap.size := by have := hb.size; simp at this; omega
    clear hb
    go_wp2_with fail
    have F0 : Hid (FldB ((w1.alloc (.cells #[.int .u32 (pg : Int), .int .u64 (rc : Int), .int .u16 (rg : Int)] 44)).alloc (.cells #[.int .u64 (cm : Int), .int .i64 8, .int .u64 (pg : Int), .int .i64 4, .int .u64 (rc : Int), .int .i64 8, .int .u64 (rg : Int), .int .i64 2, .int .u64 (lv : Int), .int .i64 1, .int .u64 (gn : Int), .int .i64 2, .int .u64 (tn : Int), .int .i64 4] 175)) (w1.heap.size + 1) ps) := Lib.hid (by
      unfold FldB
      rw [HF.out]
      have := heap_alloc_new (w1.alloc (.cells #[.int .u32 (pg : Int), .int .u64 (rc : Int), .int .u16 (rg : Int)] 44)) (.cells #[.int .u64 (cm : Int), .int .i64 8, .int .u64 (pg : Int), .int .i64 4, .int .u64 (rc : Int), .int .i64 8, .int .u64 (rg : Int), .int .i64 2, .int .u64 (lv : Int), .int .i64 1, .int .u64 (gn : Int), .int .i64 2, .int .u64 (tn : Int), .int .i64 4] 175)
      simpa using this)
    have B2 : Hid (Below w.heap.size w ((w1.alloc (.cells #[.int .u32 (pg : Int), .int .u64 (rc : Int), .int .u16 (rg : Int)] 44)).alloc (.cells #[.int .u64 (cm : Int), .int .i64 8, .int .u64 (pg : Int), .int .i64 4, .int .u64 (rc : Int), .int .i64 8, .int .u64 (rg : Int), .int .i64 2, .int .u64 (lv : Int), .int .i64 1, .int .u64 (gn : Int), .int .i64 2, .int .u64 (tn : Int), .int .i64 4] 175))) := Lib.hid ((B1.out.alloc B1.out.size _).alloc (by have := B1.out.size; simp; omega) _)
    generalize hW2 : ((w1.alloc (.cells #[.int .u32 (pg : Int), .int .u64 (rc : Int), .int .u16 (rg : Int)] 44)).alloc (.cells #[.int .u64 (cm : Int), .int .i64 8, .int .u64 (pg : Int), .int .i64 4, .int .u64 (rc : Int), .int .i64 8, .int .u64 (rg : Int), .int .i64 2, .int .u64 (lv : Int), .int .i64 1, .int .u64 (gn : Int), .int .i64 2, .int .u64 (tn : Int), .int .i64 4] 175)) = w2 at *
    have hz2' : w2.heap.size = w1.heap.size + 2 := by rw [← hW2]; simp
    have HZ2 := Lib.hid hz2'
    clear hW2 hz2' c0 c1 c2 c3 c4 c5 c6 HF M0 HM B1 z1 z2 z3 z4 z5
    go_loopw [6, 8, 9, 10, 48] (fun v _ _ _ j wr => ∃ q : Nat, q ≤ 7 ∧ j = .int .i64 q ∧ OwB wr (w1.heap.size + 2) v (flatN (ps.take q)) ∧ FldB wr (w1.heap.size + 1) ps ∧ Below w.heap.size w wr ∧ w1.heap.size + 2 ≤ wr.heap.size) (fun _ _ _ _ j _ => 7 - (intOf j).toNat)
    case atStart => exact ⟨0, Nat.zero_le _, rfl, OwB.nil _ _, F0.out, B2.out, by rw [HZ2.out]; exact Nat.le_refl _⟩
    case round =>
      obtain ⟨q, hq, rfl, ho, hf, kb, hs⟩ := hrel
      by_cases hlt : q < 7
      · have hqi : (q : Int) < 7 := by omega
        obtain ⟨p, hp⟩ : ∃ p, ps[q]? = some p := ⟨_, List.getElem?_eq_getElem (by rw [HN.out]; exact hlt)⟩
        obtain ⟨p1, p2, p3, p4⟩ := HO.out p (List.mem_of_getElem? hp)
        have hts : ps.take (q + 1) = ps.take q ++ [p] := by rw [List.take_add_one, hp]; rfl
        have hfl := flatN_snoc (ps.take q) p
        rw [← hts] at hfl
        obtain ⟨a0, a1⟩ := hf.at hp
        have hle := flatN_le (ps := ps.take q) (fun r hr => HO.out r (List.mem_of_mem_take hr))
        rw [List.length_take] at hle
        obtain ⟨x, sz⟩ := p
        simp only at p1 p2 p3 p4 a0 a1 hfl
        have HPU := Lib.hid fun W => put_any x sz W p1 p2 p3 p4
        have FF := Lib.hid hf
        have KB := Lib.hid kb
        have OO := Lib.hid ho
        have HFL := Lib.hid hfl
        have HLE := Lib.hid hle
        have HQ := Lib.hid hlt
        have P3 := Lib.hid p3
        have HS := Lib.hid hs
        clear ho hf kb hfl hle hlt hts hp p1 p2 p3 p4 hq hs
        go_wp2_with fail
        refine (HPU.out _).mono ?_
        rintro e w3 ⟨rfl, hk, hb⟩
        have hb2 := ((Below.refl wr.heap.size wr).alloc (Nat.le_refl _) (.cells #[.int .u64 (x : Int), .int .i64 (sz : Int)] 175)).trans (hb.mono (by simp))
        have K3 : Hid (IsB w3 (some ⟨wr.heap.size + 1, 0, none⟩) sz sz (digB x sz)) := Lib.hid (by
          have := isB_whole hk (digB_byt _ _) (digB_len _ _) (by have := P3.out; omega)
          simpa using this)
        have O3 := Lib.hid (OO.out.ab hb2)
        have F3 := Lib.hid (FF.out.low hb2 FF.out.lt)
        have KB3 := Lib.hid (below_tr KB.out hb2 KB.out.size)
        have HS3 : Hid (w1.heap.size + 2 ≤ w3.heap.size) := Lib.hid (Nat.le_trans HS.out hb2.size)
        clear hk hb hb2
        go_wp2_with (refine wpList_appB _ rfl (.tmp 60) (.tmp 61) rfl Try.underlying27 hi0 hz0 hz1 hz2 rfl O3.out rfl K3.out rfl (by have := HLE.out; have := HQ.out; have := P3.out; omega) HS3.out ?_
                     intro v6 w6 hv6 hb6 hg6 hat6
                     rw [← HFL.out] at hv6
                     have V6 := Lib.hid hv6
                     have F6 := Lib.hid (F3.out.low hb6 (by omega))
                     have B6 := Lib.hid (KB3.out.trans (hb6.mono (by have := hz; omega)))
                     have S6 := Lib.hid (Nat.le_trans HS3.out hb6.size)
                     clear hv6 hb6 hg6 hat6)
        go_roundw
        case rel => exact ⟨q + 1, HQ.out, by go_num, V6.out, F6.out, B6.out, S6.out⟩
        case measure => simp [intOf]; have := HQ.out; omega
      · obtain rfl : q = 7 := by omega
        rw [List.take_of_length_le (by rw [HN.out]; exact Nat.le_refl _)] at ho
        obtain ⟨A, cap, rfl, _, _⟩ := ho.shape
        have hl29 := HL.out
        rw [hl29] at ho ⊢
        have OO := Lib.hid ho
        have KB := Lib.hid kb
        have HS := Lib.hid hs
        clear ho kb hlt hq hf hs hl29
        go_wp2_with (refine wpList_appZ _ rfl (.tmp 64) (.tmp 67) rfl Try.underlying27 Try.underlying3 hi0 hz0 hz1 hz2 hz3 OO.out rfl 195 rfl (by decide) (by rw [HL.out]; decide) HS.out ?_
                     intro v6 w6 hv6 hb6 hg6
                     rw [← HE.out] at hv6
                     have V6 := Lib.hid hv6
                     have B6 := Lib.hid (KB.out.trans (hb6.mono (by have := hz; omega)))
                     clear hv6 hb6 hg6)
        go_ret2
        exact ⟨_, rfl, V6.out.lower (by have := hz; omega), B6.out⟩
end Go.Proofs.Ytgnooakjkpkgiaa
