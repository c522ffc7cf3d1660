/-
  WALKS: the program's words of a key.
  WALKS: aes.New.
-/
import Derived.Test.YtakgebbeknfplaaGreatCtC
import Derived.Deep.DeepCutAuto
import Derived.Laws.MakeOwn
namespace Go.Proofs.YtakgebbeknfplaaGreat
open Go.RowKit
set_option linter.unusedVariables false

theorem info4z : (Tryz.prog.info? 432).map (fun i => (i.zero, i.size, i.bytes)) = some (some (.agg #[.int .u8 0, .int .u8 0, .int .u8 0, .int .u8 0]), 4, 4) := by kernel_rfl
theorem make_words (n : Nat) (hn : n ≤ 100) (hz : madeCells #[.int .u8 0, .int .u8 0, .int .u8 0, .int .u8 0] (n * 4) = bts (zeros (4 * n))) (W : World) :
    (Instr.makeSlice 406 (.int .i64 (n : Int)) (.int .i64 (n : Int))).run Tryz.prog W = .ok (.slice (some ⟨W.heap.size, 0, none⟩) n n) (W.alloc (.cells (bts (zeros (4 * n))) 432)) := by
  obtain ⟨i0, hi0, h0, h1, h2⟩ := info_parts info4z
  have := run_make (P := Tryz.prog) W 406 432 i0 _ Tryz.underlying406 hi0 h0 .i64 .i64 n n (by omega) (by omega) (by rw [h2]; omega) (by omega)
  rw [this, h1]
  simp only [Int.toNat_natCast]
  rw [← hz]
  rfl
theorem sl_cut4 (W : World) (x : Addr) (n c i : Nat) (hi : 4 * i + 4 ≤ n) (hc : n ≤ c) : (Instr.sliceAt 22 (.slice (some x) n c) (some (.int .i64 (4 * (i : Int)))) (some (.int .i64 (4 * (i : Int) + 4))) none).run Tryz.prog W = .ok (.slice (some (x.add (4 * i))) 4 (c - 4 * i)) W := by
  have h : Tryz.prog.underlying 22 = some (.slice (Tryz.prog.elem 22)) := by kernel_rfl
  have hs : (sizeOf (Tryz.prog.elem 22)).run Tryz.prog W = .ok 1 W := by
    have h : (Tryz.prog.info? (Tryz.prog.elem 22)).map (·.size) = some 1 := by kernel_rfl
    cases hq : Tryz.prog.info? (Tryz.prog.elem 22) with
    | none => rw [hq] at h; cases h
    | some i => rw [hq] at h; simp only [Option.map_some, Option.some.injEq] at h; simp [sizeOf, typeInfo, hq, h]
  rw [run_sliceAt_slice W _ _ _ _ _ h, run_slice_lh W _ _ _ _ h .i64 .i64 (4 * (i : Int)) (4 * (i : Int) + 4) (by omega) (by omega) (by omega), hs]
  simp only [Result.andThen_ok, sliced, Nat.mul_one]
  rw [if_neg (by omega), show (4 * (i : Int)).toNat = 4 * i from by omega, show (4 * (i : Int) + 4).toNat - 4 * i = 4 from by omega]
  rfl
theorem at_map (l : List Nat) (o m : Nat) (h : o + m ≤ l.length) : ∀ i, i < ((l.drop o).take m).length → at' ((l.drop o).take m) i = at' l (o + i) := by
  intro i hi
  have : i < m := by simp at hi; omega
  simp [at', this]
theorem addr_add (x : Addr) (m i : Nat) : (x.add m).add i = x.add (m + i) := by
  unfold Addr.add
  by_cases h1 : m = 0 <;> by_cases h2 : i = 0 <;> simp [h1, h2, Nat.add_assoc]
theorem IsB.some {w : World} {x : Addr} {n c : Nat} {l : List Nat} (h : IsB w (some x) n c l) (i : Nat) (hi : i < n) : w.cell? (x.add i) = .some (.int .u8 (at' l i : Nat)) := by
  obtain ⟨y, e, _, hy⟩ := h.cell (by omega)
  injection e with e
  rw [e]
  exact hy i hi
/-- m bytes of it, from o on, as cells -/
theorem IsB.cells {w : World} {x : Addr} {n c : Nat} {l : List Nat} (h : IsB w (.some x) n c l) (o m : Nat) (hm : o + m ≤ n) : ∀ (j : Nat) (v : Value), (((l.drop o).take m).map (fun n : Nat => Value.int .u8 (n : Int)))[j]? = .some v → w.cell? ((x.add o).add j) = .some v := by
  intro j v hv
  have hl := h.len
  rw [List.getElem?_map] at hv
  have hj : j < m := by
    by_cases hj : j < m
    · exact hj
    · rw [List.getElem?_take, if_neg hj] at hv; simp at hv
  rw [addr_add, h.some (o + j) (by omega)]
  rw [List.getElem?_take, if_pos hj, List.getElem?_drop, List.getElem?_eq_getElem (by omega)] at hv
  simp only [at', List.getElem?_eq_getElem (show o + j < l.length by omega)]
  simpa using hv
theorem Bk.there {w : World} {b : Nat} {t : TypeId} {l : List Nat} (h : Bk w b t l) (o m : Nat) (hm : o + m ≤ l.length) : w.there b o m := fun j hj =>
  ⟨by rw [h.cell (by omega)]; rfl, h.free _⟩
theorem run_loadAny {P : Program} (w : World) (p : Addr) (ty : TypeId) (c : List Nat) {d : TypeDesc} (hc : ∀ j v, (c.map (fun n : Nat => Value.int .u8 (n : Int)))[j]? = .some v → w.cell? (p.add j) = .some v)
    (hu : P.underlying ty = .some d) (hi : (P.info? ty).map (·.size) = .some c.length) (hd : d.isRow = true := by rfl) : (Instr.loadAt ty (.pointer (.some p))).run P w = .ok (.agg (bts c)) w := by
  have hl : (loadCells p c.length).run P w = .ok (bts c) w := by
    have := run_loadCells_list (P := P) w p _ hc
    rw [List.length_map] at this
    exact this
  have hrun : (loadVar ty p).run P w = .ok (.agg (bts c)) w := by
    cases hq : P.info? ty with
    | none => simp [hq] at hi
    | some i =>
      have hs : i.size = c.length := by simpa [hq] using hi
      have hagg : (isAgg ty).run P w = .ok true w := by
        unfold isAgg
        rw [Sem.run_bind, run_underlying hu w]
        cases d <;> simp_all
      simp [loadVar, Sem.run_bind, hagg, sizeOf, typeInfo, hq, hs, hl]
  simp only [Instr.loadAt, Instr.sureAddr, Sem.run_bind, Sem.run_pure, Result.andThen_ok, hrun]
theorem run_storeB {P : Program} (w : World) (b o : Nat) (ty : TypeId) (c : List Nat) (ht : w.there b o c.length) (hi : (P.info? ty).map (·.size) = .some c.length) :
    (Instr.storeAt ty (.pointer (.some ⟨b, o, none⟩)) (.agg (bts c))).run P w = .ok () (w.setCells b o (c.map (fun n : Nat => Value.int .u8 (n : Int)))) := by
  have := run_storeAt_mid (P := P) w b o ty (bts c) (by rw [bts_size]; exact ht) (by rw [bts_size]; exact hi) (bts_one c)
  rw [bts_list] at this
  exact this
theorem pow2_any (n : Nat) {g : Nat} (hn : n < 16) (hg : Hid (gpow 2 n = g)) (w : World) : Calls Tryz.prog 340 #[.int .u8 2, .int .u32 (n : Int)] w fun e w' => e = .returned (.int .u8 (g : Int)) ∧ w = w' := by
  have e := hg.out
  subst e
  exact pow_any 2 n (by omega) (by omega) w
theorem sub_at (a : Nat) {s : Nat} (ha : a < 256) (hs : Hid (sbox a = s)) (w : World) : Calls Tryz.prog 306 #[.int .u8 (a : Int)] w fun e w' => e = .returned (.int .u8 (s : Int)) ∧ ∃ m, w' = w.drewN m := by
  have e := hs.out
  subst e
  exact sub_any a ha w
theorem wrap_u32 (z : Int) (h0 : 0 ≤ z) (h1 : z < 4294967296) : IntKind.u32.wrap z = z := by
  show z % 4294967296 = z
  omega
/-- behind i words and p bytes more -/
structure Wst (B : Nat) (w0 w : World) (E : List Nat) (m : Nat) : Prop where
  row : Bk w B 432 (upd (at' E) (zeros E.length) m)
  below : Below B w0 w
theorem Wst.step {B : Nat} {w0 w : World} {E : List Nat} {m x : Nat} (h : Wst B w0 w E m) (hm : m < E.length) (hx : x = at' E m) : Wst B w0 (w.drew.setCell ⟨B, m, none⟩ (.int .u8 (x : Int))) E (m + 1) := by
  subst hx
  refine ⟨?_, h.below.drew.setCell (Nat.le_refl _) _⟩
  have := h.row.drew.set m (at' E m)
  rw [upd_step (at' E) (zeros E.length) m (by rw [zeros_len]; exact hm)] at this
  exact this
theorem Wst.step' {B : Nat} {w0 w : World} {E : List Nat} {m x : Nat} (h : Wst B w0 w E m) (hm : m < E.length) (hx : x = at' E m) : Wst B w0 (w.setCell ⟨B, m, none⟩ (.int .u8 (x : Int))) E (m + 1) := by
  subst hx
  refine ⟨?_, h.below.setCell (Nat.le_refl _) _⟩
  have := h.row.set m (at' E m)
  rw [upd_step (at' E) (zeros E.length) m (by rw [zeros_len]; exact hm)] at this
  exact this
theorem Wst.alloc {B : Nat} {w0 w : World} {E : List Nat} {m : Nat} (h : Wst B w0 w E m) (o : Obj) : Wst B w0 (w.alloc o) E m := ⟨h.row.alloc o, h.below.alloc (Nat.le_of_lt h.row.lt) o⟩
theorem Wst.drewN {B : Nat} {w0 w : World} {E : List Nat} {m : Nat} (h : Wst B w0 w E m) (n : Nat) : Wst B w0 (w.drewN n) E m := ⟨h.row.drewN n, below_dn h.below n⟩
theorem Wst.far {B g k : Nat} {w0 w : World} {E : List Nat} {m : Nat} (h : Wst B w0 w E m) (hg : B < g) (u : Value) : Wst B w0 (w.setCell ⟨g, k, none⟩ u) E m := ⟨h.row.far (by omega) u, h.below.setCell (by show B ≤ g; omega) u⟩
theorem Wst.four {B : Nat} {w0 w : World} {E c : List Nat} {m : Nat} (h : Wst B w0 w E m) (hm : m + 4 ≤ E.length) (hl : c.length = 4) (hc : ∀ i, i < 4 → at' c i = at' E (m + i)) : Wst B w0 (w.setCells B m (c.map (fun n : Nat => Value.int .u8 (n : Int)))) E (m + 4) := by
  refine ⟨?_, below_setCells (Nat.le_refl _) _ _ _ h.below⟩
  have := setCells_upd w B 432 (at' E) (zeros E.length) c m w h.row (by rw [hl, zeros_len]; exact hm) (by rw [hl]; exact hc)
  rw [hl] at this
  exact this
theorem Wst.start {w : World} {E : List Nat} : Wst w.heap.size w (w.alloc (.cells (bts (zeros E.length)) 432)) E 0 := by
  refine ⟨?_, (Below.refl _ _).alloc (Nat.le_refl _) _⟩
  rw [upd_zero]
  exact Bk.new _ _ _
theorem Wst.below' {B : Nat} {w0 w w' : World} {E : List Nat} {m C : Nat} (h : Wst B w0 w E m) (hb : Below C w w') (hC : B < C) : Wst B w0 w' E m := ⟨h.row.below hb hC, h.below.trans (hb.mono (Nat.le_of_lt hC))⟩

set_option maxRecDepth 100000 in
set_option maxHeartbeats 1000000 in
theorem words4_any (l : List Nat) (A : Option Addr) (c : Nat) (w : World) (hin : IsB w A 16 c l) :
    Calls Tryz.prog 305 #[.slice A 16 c] w fun e w' => e = .returned (.tuple #[.slice (some ⟨w.heap.size, 0, none⟩) 44 44, .int .i64 0]) ∧ Bk w' w.heap.size 432 (wordsAll 4 l) ∧ Below w.heap.size w w' := by
  have hE := wordsAll_exp (k := 4) (key := l) (by omega) (by rw [hin.len]) hin.2
  generalize wordsAll 4 l = E at hE
  obtain ⟨x, rfl, hxb, hx⟩ := hin.cell (by omega)
  have hc := hin.1.lenCap
  have hcm := hin.1.capMax
  have hlen : E.length = 176 := hE.len
  have hmk : ∀ W : World, (Instr.makeSlice 406 (.int .i64 44) (.int .i64 44)).run Tryz.prog W = .ok (.slice (some ⟨W.heap.size, 0, none⟩) 44 44) (W.alloc (.cells (bts (zeros (4 * 44))) 432)) := make_words 44 (by omega) (by kernel_rfl)
  have HX := Lib.hid hx
  have HE := Lib.hid hE
  have HI := Lib.hid hin
  have HL := Lib.hid hlen
  have hst : Wst w.heap.size w (w.alloc (.cells (bts (zeros (4 * 44))) 432)) E 0 := by
    have := Wst.start (w := w) (E := E)
    rw [hlen] at this
    exact this
  have HST := Lib.hid hst
  clear hx hE hin hlen hst
  go_enter Tryz.func305, Tryz.ntmps305
  go_wp2_with fail
  go_loopw [26] (fun j wr => ∃ i : Nat, i ≤ 44 ∧ j = .int .i64 i ∧ Wst w.heap.size w wr E (i * 4)) (fun j _ => 44 - (intOf j).toNat)
  case atStart => exact ⟨0, by omega, rfl, HST.out⟩
  case round =>
    obtain ⟨i, hi, rfl, ho⟩ := hrel
    clear HST hmk
    by_cases hlt : i < 44
    · have hlti : (i : Int) < 44 := by omega
      by_cases hk : i < 4
      · have hki : (i : Int) < 4 := by omega
        have hkd : decide ((i : Int) < 4) = true := by simpa using hki
        have hcut := fun W => sl_cut4 W x 16 c i (by omega) hc
        have ha4 := arr4
        have hx0 := (HI.out.below ho.below).some (4 * i) (by omega)
        have hx1 : wr.cell? ⟨(x.add (4 * i)).block, (x.add (4 * i)).off + 1, none⟩ = _ := (congrArg wr.cell? (addr_add x (4 * i) 1)).trans ((HI.out.below ho.below).some (4 * i + 1) (by omega))
        have hx2 : wr.cell? ⟨(x.add (4 * i)).block, (x.add (4 * i)).off + 2, none⟩ = _ := (congrArg wr.cell? (addr_add x (4 * i) 2)).trans ((HI.out.below ho.below).some (4 * i + 2) (by omega))
        have hx3 : wr.cell? ⟨(x.add (4 * i)).block, (x.add (4 * i)).off + 3, none⟩ = _ := (congrArg wr.cell? (addr_add x (4 * i) 3)).trans ((HI.out.below ho.below).some (4 * i + 3) (by omega))
        have hl : l.length = 16 := HI.out.len
        have e0 : at' l (4 * i) = at' E (i * 4) := by rw [HE.out.own _ (by omega), Nat.mul_comm]
        have e1 : at' l (4 * i + 1) = at' E (i * 4 + 1) := by rw [HE.out.own _ (by omega), Nat.mul_comm]
        have e2 : at' l (4 * i + 2) = at' E (i * 4 + 2) := by rw [HE.out.own _ (by omega), Nat.mul_comm]
        have e3 : at' l (4 * i + 3) = at' E (i * 4 + 3) := by rw [HE.out.own _ (by omega), Nat.mul_comm]
        rw [e0] at hx0
        rw [e1] at hx1
        rw [e2] at hx2
        rw [e3] at hx3
        have c0 := ho.row.cell (k := i * 4) (by rw [upd_len, zeros_len, HL.out]; omega)
        have c1 := ho.row.cell (k := i * 4 + 1) (by rw [upd_len, zeros_len, HL.out]; omega)
        have c2 := ho.row.cell (k := i * 4 + 2) (by rw [upd_len, zeros_len, HL.out]; omega)
        have c3 := ho.row.cell (k := i * 4 + 3) (by rw [upd_len, zeros_len, HL.out]; omega)
        have f0 := ho.row.free (i * 4)
        have f1 := ho.row.free (i * 4 + 1)
        have f2 := ho.row.free (i * 4 + 2)
        have f3 := ho.row.free (i * 4 + 3)
        have hst := ((((ho.step' (by rw [HL.out]; omega) rfl).step' (by rw [HL.out]; omega) rfl).step' (by rw [HL.out]; omega) rfl).step' (by rw [HL.out]; omega) rfl)
        clear e0 e1 e2 e3 hl ho
        generalize at' E (i * 4) = a0 at *
        generalize at' E (i * 4 + 1) = a1 at *
        generalize at' E (i * 4 + 2) = a2 at *
        generalize at' E (i * 4 + 3) = a3 at *
        have HST := Lib.hid hst
        clear hst
        go_wp2
        go_roundw
        case rel => exact ⟨i + 1, by omega, by go_num, by rw [Nat.add_mul]; exact HST.out⟩
        case measure => simp [intOf]; omega
      · have hki : ¬ (i : Int) < 4 := by omega
        obtain ⟨j, hj⟩ : ∃ j, i = j + 1 := ⟨i - 1, by omega⟩
        have hj1 : (i : Int) - 1 = (j : Int) := by omega
        have hj2 : (j : Int) < 44 := by omega
        have hcell : ∀ p, p < 4 → wr.cell? ⟨w.heap.size, j * 4 + p, none⟩ = some (.int .u8 (at' E (4 * (i - 1) + p) : Nat)) := by
          intro p hp
          rw [ho.row.cell (k := j * 4 + p) (by rw [upd_len, zeros_len, HL.out]; omega), upd_get _ _ _ _ (by rw [zeros_len, HL.out]; omega), if_pos (by omega), show 4 * (i - 1) + p = j * 4 + p from by omega]
        have c0 := hcell 0 (by omega)
        have c1 := hcell 1 (by omega)
        have c2 := hcell 2 (by omega)
        have c3 := hcell 3 (by omega)
        rw [Nat.add_zero] at c0 c1 c2 c3
        have hb0 := HE.out.byt.at' (4 * (i - 1))
        have hb1 := HE.out.byt.at' (4 * (i - 1) + 1)
        have hb2 := HE.out.byt.at' (4 * (i - 1) + 2)
        have hb3 := HE.out.byt.at' (4 * (i - 1) + 3)
        have hnx : nx 4 E i = nx 4 E i := rfl
        conv at hnx => rhs; unfold nx
        generalize at' E (4 * (i - 1)) = t0 at *
        generalize at' E (4 * (i - 1) + 1) = t1 at *
        generalize at' E (4 * (i - 1) + 2) = t2 at *
        generalize at' E (4 * (i - 1) + 3) = t3 at *
        obtain ⟨s0, hs0⟩ : ∃ s, sbox t0 = s := ⟨_, rfl⟩
        obtain ⟨s1, hs1⟩ : ∃ s, sbox t1 = s := ⟨_, rfl⟩
        obtain ⟨s2, hs2⟩ : ∃ s, sbox t2 = s := ⟨_, rfl⟩
        obtain ⟨s3, hs3⟩ : ∃ s, sbox t3 = s := ⟨_, rfl⟩
        have hsb1 := sbox_lt t1 hb1
        rw [hs1] at hsb1
        rw [hs0, hs1, hs2, hs3] at hnx
        have HS0 := Lib.hid hs0
        have HS1 := Lib.hid hs1
        have HS2 := Lib.hid hs2
        have HS3 := Lib.hid hs3
        clear hs0 hs1 hs2 hs3
        have HO := Lib.hid ho
        have HJ := Lib.hid hj
        have HNX := Lib.hid hnx
        have hbig : w.heap.size < wr.heap.size := ho.row.lt
        have hil : 1 ≤ i := by omega
        clear hj hnx hcell ho
        obtain ⟨r, hr⟩ : ∃ r, i % 4 = r := ⟨_, rfl⟩
        have hmod : (i : Int).tmod 4 = (r : Int) := by rw [Int.tmod_eq_emod_of_nonneg (by omega)]; omega
        have HR := Lib.hid hr
        clear hr
        go_upto_if 52 with (fail)
        clear hmod
        go_cut [] from 51 to 92 (fun wx => Bk wx wr.heap.size 432 (nx 4 E i) ∧ Wst w.heap.size w wx E (i * 4))
        case first =>
          by_cases hr0 : r = 0
          · subst hr0
            obtain ⟨q, hq⟩ : ∃ q, i = 4 * (q + 1) := ⟨i / 4 - 1, by have := HR.out; omega⟩
            have hq0 : IntKind.i64.wrap ((i : Int) / 4) = (q : Int) + 1 := by rw [IntWalk.i64_in _ (by omega)]; omega
            have hq1 : IntKind.i64.wrap (q : Int) = (q : Int) := by rw [IntWalk.i64_in _ (by omega)]
            have hq2 : IntKind.u32.wrap (q : Int) = (q : Int) := wrap_u32 _ (by omega) (by omega)
            have HQ := Lib.hid hq
            have hq15 : q < 16 := by omega
            clear hq
            obtain ⟨g, hg⟩ : ∃ g, gpow 2 q = g := ⟨_, rfl⟩
            have hgb := gpow_lt q hq15
            rw [hg] at hgb
            have hxo := bits_xor_u8 s1 g hsb1 hgb
            have HG := Lib.hid hg
            clear hg
            obtain ⟨y, hy⟩ : ∃ y, s1 ^^^ g = y := ⟨_, rfl⟩
            rw [hy] at hxo
            have HY := Lib.hid hy
            clear hy
            go_wp2_with fail
            refine wp_quiet_tail_drew 20 (by kernel_rfl) (by kernel_rfl) ?_
            simp only [List.take_succ_cons, List.take_zero, List.drop_succ_cons, List.drop_zero]
            repeat (quiet_step (first
              | (go_at_call_of 306 (Value.int .u8 (t0 : Int)); exact Calls.quiet_of (sub_at t0 hb0 HS0 _))
              | (go_at_call_of 306 (Value.int .u8 (t1 : Int)); exact Calls.quiet_of (sub_at t1 hb1 HS1 _))
              | (go_at_call_of 306 (Value.int .u8 (t2 : Int)); exact Calls.quiet_of (sub_at t2 hb2 HS2 _))
              | (go_at_call_of 306 (Value.int .u8 (t3 : Int)); exact Calls.quiet_of (sub_at t3 hb3 HS3 _))
              | (go_at_call 340; exact Calls.quiet_of_same (same_of (pow2_any q hq15 HG _)))))
            refine wpQuiet_nil ?_
            intro _ hw'
            obtain ⟨nq, rfl⟩ := hw'
            go_wp2
            go_meet
            have hn : nx 4 E i = [y, s2, s3, s0] := by
              rw [HNX.out, if_pos HR.out, ← HY.out, ← HG.out, show i / 4 - 1 = q from by have := HQ.out; omega]
            rw [hn]
            exact ⟨((((Bk.new wr 432 [t0, t1, t2, t3]).drewN nq).set 0 y).set 1 s2 |>.set 2 s3 |>.set 3 s0), ((((HO.out.alloc _).drewN nq).far hbig _).far hbig _ |>.far hbig _ |>.far hbig _)⟩
          · have hri : ¬ (r : Int) = 0 := by omega
            go_wp2
            go_meet
            have hn : nx 4 E i = [t0, t1, t2, t3] := by
              rw [HNX.out, if_neg (by have := HR.out; omega), if_neg (by omega)]
            rw [hn]
            exact ⟨Bk.new wr 432 [t0, t1, t2, t3], HO.out.alloc _⟩
        case rest =>
          obtain ⟨hu, hw⟩ := hcut
          clear HO
          generalize wr.heap.size = g7 at *
          have hul : (nx 4 E i).length = 4 := nx_len _ _ _
          have hub := nx_byt (k := 4) HE.out.byt (by omega) hlt
          have HNE := Lib.hid (HE.out.next i (by omega) hlt)
          generalize nx 4 E i = U at hu hul hub HNX HNE
          have HUL := Lib.hid hul
          have HU := Lib.hid hu
          have HW := Lib.hid hw
          clear hu hw hul
          go_wp2_with fail
          go_loopw [93] (fun v wr => ∃ p : Nat, p ≤ 4 ∧ v = .int .i64 p ∧ Bk wr g7 432 U ∧ Wst w.heap.size w wr E (i * 4 + p)) (fun v _ => 4 - (intOf v).toNat)
          case atStart => exact ⟨0, by omega, rfl, HU.out, HW.out⟩
          case round =>
            obtain ⟨p, hp, rfl, hu, ho⟩ := hrel
            clear HU HW
            by_cases hlp : p < 4
            · have hpi : (p : Int) < 4 := by omega
              obtain ⟨d, hd⟩ : ∃ d, i = d + 4 := ⟨i - 4, by omega⟩
              have hd1 : IntKind.i64.wrap ((i : Int) - 4) = (d : Int) := by rw [IntWalk.i64_in _ (by omega)]; omega
              have hd2 : (d : Int) < 44 := by omega
              have c1 := hu.cell (k := p) (by rw [HUL.out]; exact hlp)
              have c2 : wr.cell? ⟨w.heap.size, d * 4 + p, none⟩ = some (.int .u8 (at' E (4 * (i - 4) + p) : Nat)) := by
                rw [ho.row.cell (k := d * 4 + p) (by rw [upd_len, zeros_len, HL.out]; omega), upd_get _ _ _ _ (by rw [zeros_len, HL.out]; omega), if_pos (by omega), show 4 * (i - 4) + p = d * 4 + p from by omega]
              have c3 := ho.row.cell (k := i * 4 + p) (by rw [upd_len, zeros_len, HL.out]; omega)
              have f1 := ho.row.free (i * 4 + p)
              have hzx := hub.at' p
              have hzy := HE.out.byt.at' (4 * (i - 4) + p)
              have hne := HNE.out p hlp
              change wr.cell? ⟨g7, p, none⟩ = some (.int .u8 (at' U p : Nat)) at c1
              generalize at' U p = zx at c1 hzx hne
              generalize at' E (4 * (i - 4) + p) = zy at c2 hzy hne
              have hxo := bits_xor_u8 zx zy hzx hzy
              have hst := ho.step (x := zx ^^^ zy) (by rw [HL.out]; omega) (by rw [← hne, Nat.mul_comm])
              have HST := Lib.hid hst
              have hu2 := hu.drew.far (c := w.heap.size) (k := i * 4 + p) (by omega) (.int .u8 ((zx ^^^ zy : Nat) : Int))
              have HU2 := Lib.hid hu2
              have HD := Lib.hid hd
              clear hst hu2 hu ho hne hd
              go_wp2_with fail
              refine wp_still_tail 17 (by kernel_rfl) (by kernel_rfl) ?_
              simp only [List.take_succ_cons, List.take_zero, List.drop_succ_cons, List.drop_zero]
              repeat still_step
              refine wpStill_nil ?_
              clear hd1
              go_wp2
              go_roundw
              case rel => exact ⟨p + 1, by omega, by go_num, HU2.out, HST.out⟩
              case measure => simp [intOf]; omega
            · obtain rfl : p = 4 := by omega
              have HO4 := Lib.hid ho
              clear ho hu
              go_wp2
              go_roundw
              case rel => exact ⟨i + 1, by omega, by go_num, by rw [Nat.add_mul]; exact HO4.out⟩
              case measure => simp [intOf]; omega
    · obtain rfl : i = 44 := by omega
      have h1 := ho.row
      have e1 : upd (at' E) (zeros E.length) (44 * 4) = E := by
        have hh := upd_all (at' E) (zeros E.length)
        rw [zeros_len, HL.out] at hh
        rw [HL.out]
        refine hh.trans ?_
        apply List.ext_getElem (by simp [HL.out])
        intro j h1 h2
        simp [at', List.getElem?_eq_getElem h2]
      rw [e1] at h1
      have H1 := Lib.hid h1
      have HB2 := Lib.hid ho.below
      clear h1 ho e1
      go_wp2
      go_ret2
      exact ⟨rfl, H1.out, HB2.out⟩

set_option maxRecDepth 100000 in
set_option maxHeartbeats 1000000 in
theorem words8_any (l : List Nat) (A : Option Addr) (c : Nat) (w : World) (hin : IsB w A 32 c l) :
    Calls Tryz.prog 305 #[.slice A 32 c] w fun e w' => e = .returned (.tuple #[.slice (some ⟨w.heap.size, 0, none⟩) 60 60, .int .i64 0]) ∧ Bk w' w.heap.size 432 (wordsAll 8 l) ∧ Below w.heap.size w w' := by
  have hE := wordsAll_exp (k := 8) (key := l) (by omega) (by rw [hin.len]) hin.2
  generalize wordsAll 8 l = E at hE
  obtain ⟨x, rfl, hxb, hx⟩ := hin.cell (by omega)
  have hc := hin.1.lenCap
  have hcm := hin.1.capMax
  have hlen : E.length = 240 := hE.len
  have hmk : ∀ W : World, (Instr.makeSlice 406 (.int .i64 60) (.int .i64 60)).run Tryz.prog W = .ok (.slice (some ⟨W.heap.size, 0, none⟩) 60 60) (W.alloc (.cells (bts (zeros (4 * 60))) 432)) := make_words 60 (by omega) (by kernel_rfl)
  have HX := Lib.hid hx
  have HE := Lib.hid hE
  have HI := Lib.hid hin
  have HL := Lib.hid hlen
  have hst : Wst w.heap.size w (w.alloc (.cells (bts (zeros (4 * 60))) 432)) E 0 := by
    have := Wst.start (w := w) (E := E)
    rw [hlen] at this
    exact this
  have HST := Lib.hid hst
  clear hx hE hin hlen hst
  go_enter Tryz.func305, Tryz.ntmps305
  go_wp2_with fail
  go_loopw [26] (fun j wr => ∃ i : Nat, i ≤ 60 ∧ j = .int .i64 i ∧ Wst w.heap.size w wr E (i * 4)) (fun j _ => 60 - (intOf j).toNat)
  case atStart => exact ⟨0, by omega, rfl, HST.out⟩
  case round =>
    obtain ⟨i, hi, rfl, ho⟩ := hrel
    clear HST hmk
    by_cases hlt : i < 60
    · have hlti : (i : Int) < 60 := by omega
      by_cases hk : i < 8
      · have hki : (i : Int) < 8 := by omega
        have hkd : decide ((i : Int) < 8) = true := by simpa using hki
        have hcut := fun W => sl_cut4 W x 32 c i (by omega) hc
        have ha4 := arr4
        have hx0 := (HI.out.below ho.below).some (4 * i) (by omega)
        have hx1 : wr.cell? ⟨(x.add (4 * i)).block, (x.add (4 * i)).off + 1, none⟩ = _ := (congrArg wr.cell? (addr_add x (4 * i) 1)).trans ((HI.out.below ho.below).some (4 * i + 1) (by omega))
        have hx2 : wr.cell? ⟨(x.add (4 * i)).block, (x.add (4 * i)).off + 2, none⟩ = _ := (congrArg wr.cell? (addr_add x (4 * i) 2)).trans ((HI.out.below ho.below).some (4 * i + 2) (by omega))
        have hx3 : wr.cell? ⟨(x.add (4 * i)).block, (x.add (4 * i)).off + 3, none⟩ = _ := (congrArg wr.cell? (addr_add x (4 * i) 3)).trans ((HI.out.below ho.below).some (4 * i + 3) (by omega))
        have hl : l.length = 32 := HI.out.len
        have e0 : at' l (4 * i) = at' E (i * 4) := by rw [HE.out.own _ (by omega), Nat.mul_comm]
        have e1 : at' l (4 * i + 1) = at' E (i * 4 + 1) := by rw [HE.out.own _ (by omega), Nat.mul_comm]
        have e2 : at' l (4 * i + 2) = at' E (i * 4 + 2) := by rw [HE.out.own _ (by omega), Nat.mul_comm]
        have e3 : at' l (4 * i + 3) = at' E (i * 4 + 3) := by rw [HE.out.own _ (by omega), Nat.mul_comm]
        rw [e0] at hx0
        rw [e1] at hx1
        rw [e2] at hx2
        rw [e3] at hx3
        have c0 := ho.row.cell (k := i * 4) (by rw [upd_len, zeros_len, HL.out]; omega)
        have c1 := ho.row.cell (k := i * 4 + 1) (by rw [upd_len, zeros_len, HL.out]; omega)
        have c2 := ho.row.cell (k := i * 4 + 2) (by rw [upd_len, zeros_len, HL.out]; omega)
        have c3 := ho.row.cell (k := i * 4 + 3) (by rw [upd_len, zeros_len, HL.out]; omega)
        have f0 := ho.row.free (i * 4)
        have f1 := ho.row.free (i * 4 + 1)
        have f2 := ho.row.free (i * 4 + 2)
        have f3 := ho.row.free (i * 4 + 3)
        have hst := ((((ho.step' (by rw [HL.out]; omega) rfl).step' (by rw [HL.out]; omega) rfl).step' (by rw [HL.out]; omega) rfl).step' (by rw [HL.out]; omega) rfl)
        clear e0 e1 e2 e3 hl ho
        generalize at' E (i * 4) = a0 at *
        generalize at' E (i * 4 + 1) = a1 at *
        generalize at' E (i * 4 + 2) = a2 at *
        generalize at' E (i * 4 + 3) = a3 at *
        have HST := Lib.hid hst
        clear hst
        go_wp2
        go_roundw
        case rel => exact ⟨i + 1, by omega, by go_num, by rw [Nat.add_mul]; exact HST.out⟩
        case measure => simp [intOf]; omega
      · have hki : ¬ (i : Int) < 8 := by omega
        obtain ⟨j, hj⟩ : ∃ j, i = j + 1 := ⟨i - 1, by omega⟩
        have hj1 : (i : Int) - 1 = (j : Int) := by omega
        have hj2 : (j : Int) < 60 := by omega
        have hcell : ∀ p, p < 4 → wr.cell? ⟨w.heap.size, j * 4 + p, none⟩ = some (.int .u8 (at' E (4 * (i - 1) + p) : Nat)) := by
          intro p hp
          rw [ho.row.cell (k := j * 4 + p) (by rw [upd_len, zeros_len, HL.out]; omega), upd_get _ _ _ _ (by rw [zeros_len, HL.out]; omega), if_pos (by omega), show 4 * (i - 1) + p = j * 4 + p from by omega]
        have c0 := hcell 0 (by omega)
        have c1 := hcell 1 (by omega)
        have c2 := hcell 2 (by omega)
        have c3 := hcell 3 (by omega)
        rw [Nat.add_zero] at c0 c1 c2 c3
        have hb0 := HE.out.byt.at' (4 * (i - 1))
        have hb1 := HE.out.byt.at' (4 * (i - 1) + 1)
        have hb2 := HE.out.byt.at' (4 * (i - 1) + 2)
        have hb3 := HE.out.byt.at' (4 * (i - 1) + 3)
        have hnx : nx 8 E i = nx 8 E i := rfl
        conv at hnx => rhs; unfold nx
        generalize at' E (4 * (i - 1)) = t0 at *
        generalize at' E (4 * (i - 1) + 1) = t1 at *
        generalize at' E (4 * (i - 1) + 2) = t2 at *
        generalize at' E (4 * (i - 1) + 3) = t3 at *
        obtain ⟨s0, hs0⟩ : ∃ s, sbox t0 = s := ⟨_, rfl⟩
        obtain ⟨s1, hs1⟩ : ∃ s, sbox t1 = s := ⟨_, rfl⟩
        obtain ⟨s2, hs2⟩ : ∃ s, sbox t2 = s := ⟨_, rfl⟩
        obtain ⟨s3, hs3⟩ : ∃ s, sbox t3 = s := ⟨_, rfl⟩
        have hsb1 := sbox_lt t1 hb1
        rw [hs1] at hsb1
        rw [hs0, hs1, hs2, hs3] at hnx
        have HS0 := Lib.hid hs0
        have HS1 := Lib.hid hs1
        have HS2 := Lib.hid hs2
        have HS3 := Lib.hid hs3
        clear hs0 hs1 hs2 hs3
        have HO := Lib.hid ho
        have HJ := Lib.hid hj
        have HNX := Lib.hid hnx
        have hbig : w.heap.size < wr.heap.size := ho.row.lt
        have hil : 1 ≤ i := by omega
        clear hj hnx hcell ho
        obtain ⟨r, hr⟩ : ∃ r, i % 8 = r := ⟨_, rfl⟩
        have hmod : (i : Int).tmod 8 = (r : Int) := by rw [Int.tmod_eq_emod_of_nonneg (by omega)]; omega
        have HR := Lib.hid hr
        clear hr
        go_upto_if 52 with (fail)
        go_cut [] from 51 to 92 (fun wx => Bk wx wr.heap.size 432 (nx 8 E i) ∧ Wst w.heap.size w wx E (i * 4))
        case first =>
          by_cases hr0 : r = 0
          · subst hr0
            obtain ⟨q, hq⟩ : ∃ q, i = 8 * (q + 1) := ⟨i / 8 - 1, by have := HR.out; omega⟩
            have hq0 : IntKind.i64.wrap ((i : Int) / 8) = (q : Int) + 1 := by rw [IntWalk.i64_in _ (by omega)]; omega
            have hq1 : IntKind.i64.wrap (q : Int) = (q : Int) := by rw [IntWalk.i64_in _ (by omega)]
            have hq2 : IntKind.u32.wrap (q : Int) = (q : Int) := wrap_u32 _ (by omega) (by omega)
            have HQ := Lib.hid hq
            have hq15 : q < 16 := by omega
            clear hq
            obtain ⟨g, hg⟩ : ∃ g, gpow 2 q = g := ⟨_, rfl⟩
            have hgb := gpow_lt q hq15
            rw [hg] at hgb
            have hxo := bits_xor_u8 s1 g hsb1 hgb
            have HG := Lib.hid hg
            clear hg
            obtain ⟨y, hy⟩ : ∃ y, s1 ^^^ g = y := ⟨_, rfl⟩
            rw [hy] at hxo
            have HY := Lib.hid hy
            clear hy
            go_wp2_with fail
            refine wp_quiet_tail_drew 20 (by kernel_rfl) (by kernel_rfl) ?_
            simp only [List.take_succ_cons, List.take_zero, List.drop_succ_cons, List.drop_zero]
            repeat (quiet_step (first
              | (go_at_call_of 306 (Value.int .u8 (t0 : Int)); exact Calls.quiet_of (sub_at t0 hb0 HS0 _))
              | (go_at_call_of 306 (Value.int .u8 (t1 : Int)); exact Calls.quiet_of (sub_at t1 hb1 HS1 _))
              | (go_at_call_of 306 (Value.int .u8 (t2 : Int)); exact Calls.quiet_of (sub_at t2 hb2 HS2 _))
              | (go_at_call_of 306 (Value.int .u8 (t3 : Int)); exact Calls.quiet_of (sub_at t3 hb3 HS3 _))
              | (go_at_call 340; exact Calls.quiet_of_same (same_of (pow2_any q hq15 HG _)))))
            refine wpQuiet_nil ?_
            intro _ hw'
            obtain ⟨nq, rfl⟩ := hw'
            go_wp2
            go_meet
            have hn : nx 8 E i = [y, s2, s3, s0] := by
              rw [HNX.out, if_pos HR.out, ← HY.out, ← HG.out, show i / 8 - 1 = q from by have := HQ.out; omega]
            rw [hn]
            exact ⟨((((Bk.new wr 432 [t0, t1, t2, t3]).drewN nq).set 0 y).set 1 s2 |>.set 2 s3 |>.set 3 s0), ((((HO.out.alloc _).drewN nq).far hbig _).far hbig _ |>.far hbig _ |>.far hbig _)⟩
          · have hri : ¬ (r : Int) = 0 := by omega
            by_cases hr4 : r = 4
            · have hri4 : (r : Int) = 4 := by omega
              subst hr4
              go_wp2_with fail
              refine wp_quiet_tail_drew 13 (by kernel_rfl) (by kernel_rfl) ?_
              simp only [List.take_succ_cons, List.take_zero, List.drop_succ_cons, List.drop_zero]
              repeat (quiet_step (first
                | (go_at_call_of 306 (Value.int .u8 (t0 : Int)); exact Calls.quiet_of (sub_at t0 hb0 HS0 _))
                | (go_at_call_of 306 (Value.int .u8 (t1 : Int)); exact Calls.quiet_of (sub_at t1 hb1 HS1 _))
                | (go_at_call_of 306 (Value.int .u8 (t2 : Int)); exact Calls.quiet_of (sub_at t2 hb2 HS2 _))
                | (go_at_call_of 306 (Value.int .u8 (t3 : Int)); exact Calls.quiet_of (sub_at t3 hb3 HS3 _))))
              refine wpQuiet_nil ?_
              intro _ hw'
              obtain ⟨nq, rfl⟩ := hw'
              go_wp2
              go_meet
              have hn : nx 8 E i = [s0, s1, s2, s3] := by
                rw [HNX.out, if_neg (by have := HR.out; omega), if_pos (by refine ⟨?_, HR.out⟩; trivial)]
              rw [hn]
              exact ⟨((((Bk.new wr 432 [t0, t1, t2, t3]).drewN nq).set 0 s0).set 1 s1 |>.set 2 s2 |>.set 3 s3), ((((HO.out.alloc _).drewN nq).far hbig _).far hbig _ |>.far hbig _ |>.far hbig _)⟩
            · have hri4 : ¬ (r : Int) = 4 := by omega
              go_wp2
              go_meet
              have hn : nx 8 E i = [t0, t1, t2, t3] := by
                rw [HNX.out, if_neg (by have := HR.out; omega), if_neg (by have := HR.out; omega)]
              rw [hn]
              exact ⟨Bk.new wr 432 [t0, t1, t2, t3], HO.out.alloc _⟩
        case rest =>
          obtain ⟨hu, hw⟩ := hcut
          clear HO
          generalize wr.heap.size = g7 at *
          have hul : (nx 8 E i).length = 4 := nx_len _ _ _
          have hub := nx_byt (k := 8) HE.out.byt (by omega) hlt
          have HNE := Lib.hid (HE.out.next i (by omega) hlt)
          generalize nx 8 E i = U at hu hul hub HNX HNE
          have HUL := Lib.hid hul
          have HU := Lib.hid hu
          have HW := Lib.hid hw
          clear hu hw hul
          go_wp2_with fail
          go_loopw [93] (fun v wr => ∃ p : Nat, p ≤ 4 ∧ v = .int .i64 p ∧ Bk wr g7 432 U ∧ Wst w.heap.size w wr E (i * 4 + p)) (fun v _ => 4 - (intOf v).toNat)
          case atStart => exact ⟨0, by omega, rfl, HU.out, HW.out⟩
          case round =>
            obtain ⟨p, hp, rfl, hu, ho⟩ := hrel
            clear HU HW
            by_cases hlp : p < 4
            · have hpi : (p : Int) < 4 := by omega
              obtain ⟨d, hd⟩ : ∃ d, i = d + 8 := ⟨i - 8, by omega⟩
              have hd1 : IntKind.i64.wrap ((i : Int) - 8) = (d : Int) := by rw [IntWalk.i64_in _ (by omega)]; omega
              have hd2 : (d : Int) < 60 := by omega
              have c1 := hu.cell (k := p) (by rw [HUL.out]; exact hlp)
              have c2 : wr.cell? ⟨w.heap.size, d * 4 + p, none⟩ = some (.int .u8 (at' E (4 * (i - 8) + p) : Nat)) := by
                rw [ho.row.cell (k := d * 4 + p) (by rw [upd_len, zeros_len, HL.out]; omega), upd_get _ _ _ _ (by rw [zeros_len, HL.out]; omega), if_pos (by omega), show 4 * (i - 8) + p = d * 4 + p from by omega]
              have c3 := ho.row.cell (k := i * 4 + p) (by rw [upd_len, zeros_len, HL.out]; omega)
              have f1 := ho.row.free (i * 4 + p)
              have hzx := hub.at' p
              have hzy := HE.out.byt.at' (4 * (i - 8) + p)
              have hne := HNE.out p hlp
              change wr.cell? ⟨g7, p, none⟩ = some (.int .u8 (at' U p : Nat)) at c1
              generalize at' U p = zx at c1 hzx hne
              generalize at' E (4 * (i - 8) + p) = zy at c2 hzy hne
              have hxo := bits_xor_u8 zx zy hzx hzy
              have hst := ho.step (x := zx ^^^ zy) (by rw [HL.out]; omega) (by rw [← hne, Nat.mul_comm])
              have HST := Lib.hid hst
              have hu2 := hu.drew.far (c := w.heap.size) (k := i * 4 + p) (by omega) (.int .u8 ((zx ^^^ zy : Nat) : Int))
              have HU2 := Lib.hid hu2
              have HD := Lib.hid hd
              clear hst hu2 hu ho hne hd
              go_wp2_with fail
              refine wp_still_tail 17 (by kernel_rfl) (by kernel_rfl) ?_
              simp only [List.take_succ_cons, List.take_zero, List.drop_succ_cons, List.drop_zero]
              repeat still_step
              refine wpStill_nil ?_
              clear hd1
              go_wp2
              go_roundw
              case rel => exact ⟨p + 1, by omega, by go_num, HU2.out, HST.out⟩
              case measure => simp [intOf]; omega
            · obtain rfl : p = 4 := by omega
              have HO4 := Lib.hid ho
              clear ho hu
              go_wp2
              go_roundw
              case rel => exact ⟨i + 1, by omega, by go_num, by rw [Nat.add_mul]; exact HO4.out⟩
              case measure => simp [intOf]; omega
    · obtain rfl : i = 60 := by omega
      have h1 := ho.row
      have e1 : upd (at' E) (zeros E.length) (60 * 4) = E := by
        have hh := upd_all (at' E) (zeros E.length)
        rw [zeros_len, HL.out] at hh
        rw [HL.out]
        refine hh.trans ?_
        apply List.ext_getElem (by simp [HL.out])
        intro j h1 h2
        simp [at', List.getElem?_eq_getElem h2]
      rw [e1] at h1
      have H1 := Lib.hid h1
      have HB2 := Lib.hid ho.below
      clear h1 ho e1
      go_wp2
      go_ret2
      exact ⟨rfl, H1.out, HB2.out⟩

end Go.Proofs.YtakgebbeknfplaaGreat

namespace Go.Proofs.YtakgebbeknfplaaGreat
open Go.RowKit
set_option linter.unusedVariables false

set_option maxRecDepth 100000 in
theorem words_bad (A : Option Addr) (n c : Nat) (h : n ≠ 16) (h' : n ≠ 32) (w : World) :
    Calls Tryz.prog 305 #[.slice A n c] w fun e w' => e = .returned (.tuple #[.slice none 0 0, .int .i64 2]) ∧ w = w' := by
  have h1 : ((n : Int) != 16) = true := by simp; omega
  have h2 : ((n : Int) != 32) = true := by simp; omega
  go_enter Tryz.func305, Tryz.ntmps305
  go_wp2
  go_ret2
  exact ⟨rfl, rfl⟩
theorem new_bad (A : Option Addr) (n c : Nat) (h : n ≠ 16) (h' : n ≠ 32) (w : World) :
    Calls Tryz.prog 260 #[.slice A n c] w fun e w' => e = .returned (.tuple #[.pointer none, .int .i64 2]) ∧ w = w' := by
  go_enter Tryz.func260, Tryz.ntmps260
  go_wp2_with fail
  refine (words_bad A n c h h' w).mono ?_
  rintro e w' ⟨rfl, rfl⟩
  go_wp2
  go_ret2
  exact ⟨rfl, rfl⟩

/-- a cipher's cells, behind i rounds -/
def cipL (i : Nat) : List Nat := (List.range 512).map fun k => if k < 256 then (if k < i then sbox k else 0) else (if sinv (k - 256) < i then sinv (k - 256) else 0)
def cipC (v : Value) (i : Nat) : Array Value := #[v] ++ bts (cipL i)
theorem cipL_len (i : Nat) : (cipL i).length = 512 := by simp [cipL]
theorem cipL_at (i k : Nat) (h : k < 512) : at' (cipL i) k = if k < 256 then (if k < i then sbox k else 0) else (if sinv (k - 256) < i then sinv (k - 256) else 0) := by
  simp [at', cipL, h]
set_option maxRecDepth 100000 in
theorem cipL_zero : cipL 0 = zeros 512 := by
  show (List.range 512).map _ = List.replicate 512 0
  rw [List.eq_replicate_iff]
  refine ⟨by rw [List.length_map, List.length_range], fun b hb => ?_⟩
  obtain ⟨k, _, rfl⟩ := List.mem_map.1 hb
  split <;> rfl
theorem cipL_step (i : Nat) (hi : i < 256) : ((cipL i).set i (sbox i)).set (256 + sbox i) i = cipL (i + 1) := by
  apply List.ext_getElem (by simp [cipL])
  intro k h1 h2
  have hk : k < 512 := by rw [cipL_len] at h2; exact h2
  have e : ∀ j (h : k < (cipL j).length), (cipL j)[k] = at' (cipL j) k := fun j h => by simp [at', List.getElem?_eq_getElem h]
  have hs := sbox_lt i hi
  rw [List.getElem_set, List.getElem_set]
  rw [e (i + 1) h2, e i (by rw [cipL_len]; exact hk), cipL_at _ _ hk, cipL_at _ _ hk]
  by_cases h1 : 256 + sbox i = k
  · rw [if_pos h1, if_neg (by omega), show k - 256 = sbox i from by omega, sinv_sbox i hi, if_pos (by omega)]
  · rw [if_neg h1]
    by_cases h2 : i = k
    · subst h2
      rw [if_pos rfl, if_pos hi, if_pos (by omega)]
    · rw [if_neg h2]
      by_cases h3 : k < 256
      · rw [if_pos h3, if_pos h3]
        have : (k < i + 1) ↔ k < i := by omega
        simp [this]
      · rw [if_neg h3, if_neg h3]
        have hne : sinv (k - 256) ≠ i := by
          intro e
          have := sbox_sinv (k - 256) (by omega)
          rw [e] at this
          omega
        have : (sinv (k - 256) < i + 1) ↔ sinv (k - 256) < i := by omega
        simp [this]
theorem cipZ (v : Value) : Tryz.zeroCells410.setIfInBounds 0 v = cipC v 0 := by
  have h : Tryz.zeroCells410 = #[Value.slice none 0 0] ++ bts (zeros 512) := by kernel_rfl
  rw [h, cipC, cipL_zero]
  apply Array.ext
  · simp
  · intro i h1 h2
    rw [Array.getElem_setIfInBounds (by simpa using h2)]
    by_cases h0 : 0 = i
    · subst h0
      simp
    · rw [if_neg h0, Array.getElem_append_right (by simp; omega), Array.getElem_append_right (by simp; omega)]
      simp
theorem cipC_get (v : Value) (i k : Nat) (hk : k < 512) : (cipC v i)[k + 1]? = some (.int .u8 (at' (cipL i) k : Nat)) := by
  have := bts_get (cipL i) k (by rw [cipL_len]; exact hk)
  rw [cipC, Array.getElem?_append_right (by simp)]
  simpa [at'] using this
theorem cipC_zero (v : Value) (i : Nat) : (cipC v i)[0]? = some v := by
  rw [cipC, Array.getElem?_append_left (by simp)]
  rfl
theorem cipC_set (v : Value) (l : List Nat) (k x : Nat) : (#[v] ++ bts l).setIfInBounds (k + 1) (.int .u8 (x : Int)) = #[v] ++ bts (l.set k x) := by
  apply Array.toList_inj.1
  simp [bts, List.map_set]
/-- a cipher in memory -/
structure Cip (w : World) (g : Nat) (v : Value) (i : Nat) : Prop where
  row : w.heap[g]? = some (.cells (cipC v i) 410 (0, 0))
theorem Cip.lt {w : World} {g : Nat} {v : Value} {i : Nat} (h : Cip w g v i) : g < w.heap.size := lt_of_block h.row
theorem Cip.cell {w : World} {g : Nat} {v : Value} {i : Nat} (h : Cip w g v i) {k : Nat} (hk : k < 512) : w.cell? ⟨g, k + 1, none⟩ = some (.int .u8 (at' (cipL i) k : Nat)) := by
  rw [cell_of_row w g (k + 1) _ _ (0, 0) h.row, cipC_get v i k hk]
theorem Cip.head {w : World} {g : Nat} {v : Value} {i : Nat} (h : Cip w g v i) : w.cell? ⟨g, 0, none⟩ = some v := by
  rw [cell_of_row w g 0 _ _ (0, 0) h.row, cipC_zero]
theorem Cip.free {w : World} {g : Nat} {v : Value} {i : Nat} (h : Cip w g v i) (k : Nat) : w.frozen? ⟨g, k, none⟩ = false := frozen_of_row w g k _ _ h.row
theorem Cip.below {w w' : World} {g B : Nat} {v : Value} {i : Nat} (h : Cip w g v i) (hb : Below B w w') (hB : g < B) : Cip w' g v i := ⟨(hb.block g hB).trans h.row⟩
theorem Cip.drewN {w : World} {g : Nat} {v : Value} {i : Nat} (h : Cip w g v i) (m : Nat) : Cip (w.drewN m) g v i := ⟨h.row⟩
theorem Cip.step {w : World} {g : Nat} {v : Value} {i : Nat} (h : Cip w g v i) (hi : i < 256) {s : Nat} (hs : sbox i = s) :
    Cip ((w.setCell ⟨g, 1 + i, none⟩ (.int .u8 (s : Int))).setCell ⟨g, 257 + s, none⟩ (.int .u8 (i : Int))) g v (i + 1) := by
  subst hs
  have h1 := heap_setCell_same w g (i + 1) _ _ (.int .u8 ((sbox i : Nat) : Int)) h.row
  rw [cipC, cipC_set] at h1
  have h2 := heap_setCell_same _ g (256 + sbox i + 1) _ _ (.int .u8 (i : Int)) h1
  rw [cipC_set, cipL_step i hi] at h2
  rw [show 257 + sbox i = 256 + sbox i + 1 from by omega, Nat.add_comm 1 i]
  exact ⟨h2⟩
theorem Cip.tabs {w : World} {g : Nat} {v : Value} (h : Cip w g v 256) : TabAt w g 1 sbox ∧ TabAt w g 257 sinv := by
  refine ⟨⟨h.lt, fun x hx => ?_⟩, ⟨h.lt, fun x hx => ?_⟩⟩
  · rw [Nat.add_comm, h.cell (by omega), cipL_at _ _ (by omega), if_pos hx, if_pos hx]
  · rw [show 257 + x = 256 + x + 1 from by omega, h.cell (by omega), cipL_at _ _ (by omega), if_neg (by omega), show 256 + x - 256 = x from by omega, if_pos (sinv_lt x hx)]

set_option maxRecDepth 100000 in
set_option maxHeartbeats 1000000 in
theorem new4_any (l : List Nat) (A : Option Addr) (c : Nat) (w : World) (hin : IsB w A 16 c l) :
    Calls Tryz.prog 260 #[.slice A 16 c] w fun e w' => ∃ b g, e = .returned (.tuple #[.pointer (some ⟨g, 0, none⟩), .int .i64 0]) ∧ b < g ∧ w.heap.size ≤ b ∧ Bk w' b 432 (wordsAll 4 l) ∧ Cip w' g (.slice (some ⟨b, 0, none⟩) 44 44) 256 ∧ Below w.heap.size w w' := by
  go_enter Tryz.func260, Tryz.ntmps260
  go_wp2_with fail
  refine (words4_any l A c w hin).mono ?_
  rintro e w1 ⟨rfl, hW, hb⟩
  have hbig := hW.lt
  have HW := Lib.hid hW
  have HB := Lib.hid hb
  clear hW hb
  go_upto_region 5 with fail
  rw [cipZ]
  have hcip : Cip (w1.alloc (.cells (cipC (Value.slice (some ⟨w.heap.size, 0, none⟩) 44 44) 0) 410)) w1.heap.size (Value.slice (some ⟨w.heap.size, 0, none⟩) 44 44) 0 := ⟨heap_alloc_new w1 _⟩
  have hbl : Below w1.heap.size w1 (w1.alloc (.cells (cipC (Value.slice (some ⟨w.heap.size, 0, none⟩) 44 44) 0) 410)) := (Below.refl _ _).alloc (Nat.le_refl _) _
  have HC := Lib.hid hcip
  have HBL := Lib.hid hbl
  clear hcip hbl
  generalize cipC (Value.slice (some ⟨w.heap.size, 0, none⟩) 44 44) 0 = cells at HC HBL ⊢
  go_wp2_with fail
  go_loopw [20] (fun j wr => ∃ i : Nat, i ≤ 256 ∧ j = .int .i64 i ∧ Cip wr w1.heap.size (Value.slice (some ⟨w.heap.size, 0, none⟩) 44 44) i ∧ Below w1.heap.size w1 wr) (fun j _ => 256 - (intOf j).toNat)
  case atStart => exact ⟨0, by omega, rfl, HC.out, HBL.out⟩
  case round =>
    obtain ⟨i, hi, rfl, ho, hbr⟩ := hrel
    clear HC HBL
    by_cases hlt : i < 256
    · have hlti : (i : Int) < 256 := by omega
      have hu8 : IntKind.u8.wrap (i : Int) = (i : Int) := by show (i : Int) % 256 = (i : Int); omega
      obtain ⟨s, hs⟩ : ∃ s, sbox i = s := ⟨_, rfl⟩
      have hsb : s < 256 := hs ▸ sbox_lt i hlt
      have HS := Lib.hid hs
      have c1 := ho.cell (k := i) (by omega)
      rw [Nat.add_comm] at c1
      have c2 : ∀ x, x < 256 → wr.cell? ⟨w1.heap.size, 257 + s, none⟩ = some (.int .u8 (at' (cipL i) (256 + s) : Nat)) := fun x hx => by
        rw [show 257 + s = (256 + s) + 1 from by omega]
        exact ho.cell (k := 256 + s) (by omega)
      have c2 := c2 0 (by omega)
      have f1 := ho.free (1 + i)
      have f2 := ho.free (257 + s)
      have HO := Lib.hid ho
      have HBR := Lib.hid hbr
      generalize at' (cipL i) i = y1 at c1
      generalize at' (cipL i) (256 + s) = y2 at c2
      clear hbr ho hs
      go_wp2_with fail
      refine (sub_at i hlt HS _).mono ?_
      rintro e w' ⟨rfl, m, rfl⟩
      have HST := Lib.hid ((HO.out.drewN m).step hlt HS.out)
      go_wp2
      go_roundw
      case rel => exact ⟨i + 1, by omega, by go_num, HST.out, ((below_dn HBR.out m).setCell (Nat.le_refl _) _).setCell (Nat.le_refl _) _⟩
      case measure => simp [intOf]; omega
    · obtain rfl : i = 256 := by omega
      have HO := Lib.hid ho
      have HBR := Lib.hid hbr
      clear ho hbr
      go_wp2
      go_ret2
      exact ⟨w.heap.size, w1.heap.size, rfl, hbig, Nat.le_refl _, Bk.below HW.out HBR.out hbig, HO.out, HB.out.trans (HBR.out.mono (Nat.le_of_lt hbig))⟩

set_option maxRecDepth 100000 in
set_option maxHeartbeats 1000000 in
theorem new8_any (l : List Nat) (A : Option Addr) (c : Nat) (w : World) (hin : IsB w A 32 c l) :
    Calls Tryz.prog 260 #[.slice A 32 c] w fun e w' => ∃ b g, e = .returned (.tuple #[.pointer (some ⟨g, 0, none⟩), .int .i64 0]) ∧ b < g ∧ w.heap.size ≤ b ∧ Bk w' b 432 (wordsAll 8 l) ∧ Cip w' g (.slice (some ⟨b, 0, none⟩) 60 60) 256 ∧ Below w.heap.size w w' := by
  go_enter Tryz.func260, Tryz.ntmps260
  go_wp2_with fail
  refine (words8_any l A c w hin).mono ?_
  rintro e w1 ⟨rfl, hW, hb⟩
  have hbig := hW.lt
  have HW := Lib.hid hW
  have HB := Lib.hid hb
  clear hW hb
  go_upto_region 5 with fail
  rw [cipZ]
  have hcip : Cip (w1.alloc (.cells (cipC (Value.slice (some ⟨w.heap.size, 0, none⟩) 60 60) 0) 410)) w1.heap.size (Value.slice (some ⟨w.heap.size, 0, none⟩) 60 60) 0 := ⟨heap_alloc_new w1 _⟩
  have hbl : Below w1.heap.size w1 (w1.alloc (.cells (cipC (Value.slice (some ⟨w.heap.size, 0, none⟩) 60 60) 0) 410)) := (Below.refl _ _).alloc (Nat.le_refl _) _
  have HC := Lib.hid hcip
  have HBL := Lib.hid hbl
  clear hcip hbl
  generalize cipC (Value.slice (some ⟨w.heap.size, 0, none⟩) 60 60) 0 = cells at HC HBL ⊢
  go_wp2_with fail
  go_loopw [20] (fun j wr => ∃ i : Nat, i ≤ 256 ∧ j = .int .i64 i ∧ Cip wr w1.heap.size (Value.slice (some ⟨w.heap.size, 0, none⟩) 60 60) i ∧ Below w1.heap.size w1 wr) (fun j _ => 256 - (intOf j).toNat)
  case atStart => exact ⟨0, by omega, rfl, HC.out, HBL.out⟩
  case round =>
    obtain ⟨i, hi, rfl, ho, hbr⟩ := hrel
    clear HC HBL
    by_cases hlt : i < 256
    · have hlti : (i : Int) < 256 := by omega
      have hu8 : IntKind.u8.wrap (i : Int) = (i : Int) := by show (i : Int) % 256 = (i : Int); omega
      obtain ⟨s, hs⟩ : ∃ s, sbox i = s := ⟨_, rfl⟩
      have hsb : s < 256 := hs ▸ sbox_lt i hlt
      have HS := Lib.hid hs
      have c1 := ho.cell (k := i) (by omega)
      rw [Nat.add_comm] at c1
      have c2 : ∀ x, x < 256 → wr.cell? ⟨w1.heap.size, 257 + s, none⟩ = some (.int .u8 (at' (cipL i) (256 + s) : Nat)) := fun x hx => by
        rw [show 257 + s = (256 + s) + 1 from by omega]
        exact ho.cell (k := 256 + s) (by omega)
      have c2 := c2 0 (by omega)
      have f1 := ho.free (1 + i)
      have f2 := ho.free (257 + s)
      have HO := Lib.hid ho
      have HBR := Lib.hid hbr
      generalize at' (cipL i) i = y1 at c1
      generalize at' (cipL i) (256 + s) = y2 at c2
      clear hbr ho hs
      go_wp2_with fail
      refine (sub_at i hlt HS _).mono ?_
      rintro e w' ⟨rfl, m, rfl⟩
      have HST := Lib.hid ((HO.out.drewN m).step hlt HS.out)
      go_wp2
      go_roundw
      case rel => exact ⟨i + 1, by omega, by go_num, HST.out, ((below_dn HBR.out m).setCell (Nat.le_refl _) _).setCell (Nat.le_refl _) _⟩
      case measure => simp [intOf]; omega
    · obtain rfl : i = 256 := by omega
      have HO := Lib.hid ho
      have HBR := Lib.hid hbr
      clear ho hbr
      go_wp2
      go_ret2
      exact ⟨w.heap.size, w1.heap.size, rfl, hbig, Nat.le_refl _, Bk.below HW.out HBR.out hbig, HO.out, HB.out.trans (HBR.out.mono (Nat.le_of_lt hbig))⟩

end Go.Proofs.YtakgebbeknfplaaGreat
