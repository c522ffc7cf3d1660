/-
  WALKS: ghash.of, (element).bytes: sixteen bytes and two words.
-/
import Derived.Test.YtakgebbeknfplaaGreatCtC
import Derived.Test.YtakgebbeknfplaaGreatLaC
import Derived.Test.YtakgebbeknfplaaGreatGhP
namespace Go.Proofs.YtakgebbeknfplaaGreat
open Go.RowKit
set_option linter.unusedVariables false

/-- two words as cells -/
def el (n : Nat) : Array Value := #[.int .u64 ((n / 18446744073709551616 : Nat) : Int), .int .u64 ((n % 18446744073709551616 : Nat) : Int)]
def e2 (h l : Nat) : Array Value := #[.int .u64 (h : Int), .int .u64 (l : Int)]
theorem el_N2 {h l : Nat} (hl : l < 18446744073709551616) : el (N2 h l) = e2 h l := by
  unfold el e2 N2
  rw [show (2 ^ 64 * h + l) / 18446744073709551616 = h by omega, show (2 ^ 64 * h + l) % 18446744073709551616 = l by omega]
theorem numB_two {l : List Nat} (hl : l.length = 16) : numB l = N2 (numB (l.take 8)) (numB (l.drop 8)) := by
  have := numB_app (l.take 8) (l.drop 8)
  rw [List.take_append_drop] at this
  rw [this, show (l.drop 8).length = 8 by simp [hl]]
  rfl
theorem numB_lt8 {l : List Nat} (hb : Byt l) (hl : l.length = 8) : numB l < 18446744073709551616 := by
  have := numB_lt hb
  rw [hl] at this
  exact this
theorem byt_take {l : List Nat} (h : Byt l) (n : Nat) : Byt (l.take n) := fun x hx => h x (List.mem_of_mem_take hx)
theorem byt_drop {l : List Nat} (h : Byt l) (n : Nat) : Byt (l.drop n) := fun x hx => h x (List.mem_of_mem_drop hx)
theorem digB_two {h l : Nat} (hh : h < 18446744073709551616) (hl : l < 18446744073709551616) : digB (N2 h l) 16 = digB h 8 ++ digB l 8 := by
  have h1 := digB_numB (digB h 8 ++ digB l 8) (byt_app (digB_byt h 8) (digB_byt l 8))
  rw [numB_app, digB_len, numB_digB h 8 hh, numB_digB l 8 hl, List.length_append, digB_len, digB_len] at h1
  exact h1
theorem at'_take8 {l : List Nat} {n i : Nat} (h : i < n) : at' (l.take n) i = at' l i := by simp [at', h]
theorem at'_drop (l : List Nat) (n i : Nat) : at' (l.drop n) i = at' l (n + i) := by simp [at', List.getElem?_drop]

set_option maxRecDepth 100000 in
set_option maxHeartbeats 1000000 in
theorem of2_any (l : List Nat) (hb : Byt l) (hl : l.length = 16) (w : World) :
    Calls Tryz.prog 312 #[.agg (bts l)] w fun e w' => e = .returned (.agg (el (numB l))) ∧ Below w.heap.size w w' := by
  have hh := numB_lt8 (byt_take hb 8) (by simp [hl])
  have hlo := numB_lt8 (byt_drop hb 8) (by simp [hl])
  have he : el (numB l) = e2 (numB (l.take 8)) (numB (l.drop 8)) := by rw [numB_two hl, el_N2 hlo]
  have hk : Bk ((w.alloc (.cells (bts l) 365)).alloc (.cells #[.int .u64 0, .int .u64 0] 420)) w.heap.size 365 l := (Bk.new w _ l).alloc _
  have h1 : ∀ i, i < 8 → ((w.alloc (.cells (bts l) 365)).alloc (.cells #[.int .u64 0, .int .u64 0] 420)).cell? ⟨w.heap.size, 0 + i, none⟩ = some (.int .u8 (at' (l.take 8) i : Nat)) := fun i hi => by
    rw [at'_take8 hi, Nat.zero_add]
    exact hk.cell (by omega)
  have h2 : ∀ i, i < 8 → ((w.alloc (.cells (bts l) 365)).alloc (.cells #[.int .u64 0, .int .u64 0] 420)).cell? ⟨w.heap.size, 8 + i, none⟩ = some (.int .u8 (at' (l.drop 8) i : Nat)) := fun i hi => by
    rw [at'_drop]
    exact hk.cell (by omega)
  have H1 := Lib.hid h1
  have H2 := Lib.hid h2
  have HE := Lib.hid he
  have L1 : Hid ((l.take 8).length = 8) := Lib.hid (by simp [hl])
  have L2 : Hid ((l.drop 8).length = 8) := Lib.hid (by simp [hl])
  have B1 := byt_take hb 8
  have B2 := byt_drop hb 8
  clear h1 h2 he hk hb hl
  generalize numB l = X at *
  generalize hT : l.take 8 = T at *
  generalize hD : l.drop 8 = D at *
  clear hT hD
  go_enter Tryz.func312, Tryz.ntmps312
  go_wp2_with (go_at_call 184; with_reducible refine (get_any w.heap.size 0 8 16 T _ H1.out L1.out B1 (by decide) (by decide)).mono ?_; rintro e w' ⟨rfl, rfl⟩)
  go_wp2_with (go_at_call 184; with_reducible refine (get_any w.heap.size 8 8 8 D _ H2.out L2.out B2 (by decide) (by decide)).mono ?_; rintro e w' ⟨rfl, rfl⟩)
  exact bodyPost_ret (v := .agg #[.int .u64 (numB T : Int), .int .u64 (numB D : Int)]) (by simp [results, Tryz.results312, go_sem]) rfl ⟨by rw [HE.out]; rfl, ((Below.refl _ _).alloc (Nat.le_refl _) _).alloc (Nat.le_of_lt (by simp)) _⟩

/-- a whole block as a slice -/
theorem isB_whole {w : World} {g n : Nat} {t : TypeId} {l : List Nat} (h : Bk w g t l) (hb : Byt l) (hl : l.length = n) (hm : n ≤ 9223372036854775807) : IsB w (some ⟨g, 0, none⟩) n n l := by
  have := h.isB hb n n (by omega) (Nat.le_refl _) hm
  rwa [List.take_of_length_le (by omega)] at this
theorem isB_rowFar {w : World} {A : Option Addr} {n c : Nat} {l : List Nat} (h : IsB w A n c l) {c' : Nat} (hc : ∀ x, A = some x → x.block ≠ c') (cs : Array Value) : IsB (w.setRow c' cs) A n c l :=
  ⟨h.1.keep (by simp) fun x i e hi => World.cell?_of_block (by rw [add_block]; exact setRow_other w c' _ cs (hc x e)), h.2⟩
theorem isB_cellFar {w : World} {A : Option Addr} {n c : Nat} {l : List Nat} (h : IsB w A n c l) {c' j : Nat} (hc : ∀ x, A = some x → x.block ≠ c') (u : Value) : IsB (w.setCell ⟨c', j, none⟩ u) A n c l :=
  ⟨h.1.keep (by simp [World.setCell]) fun x i e hi => World.cell?_of_block (by rw [add_block]; exact Below.heap_setCell w ⟨c', j, none⟩ u _ (hc x e)), h.2⟩
theorem bytes_splice {h l : Nat} (hh : h < 18446744073709551616) (hl : l < 18446744073709551616) :
    z16.take 0 ++ (digB h 8 ++ z16.drop (0 + 8)) = digB h 8 ++ zeros 8 ∧ (digB h 8 ++ zeros 8).take 8 ++ (digB l 8 ++ (digB h 8 ++ zeros 8).drop (8 + 8)) = digB (N2 h l) 16 := by
  refine ⟨rfl, ?_⟩
  rw [digB_two hh hl, List.take_append_of_le_length (by rw [digB_len]; exact Nat.le_refl _), List.take_of_length_le (by rw [digB_len]; exact Nat.le_refl _), List.drop_of_length_le (by simp [digB_len, zeros]), List.append_nil]
set_option maxRecDepth 100000 in
set_option maxHeartbeats 1000000 in
theorem bytes_any (h l : Nat) (hh : h < 18446744073709551616) (hl : l < 18446744073709551616) (w : World) :
    Calls Tryz.prog 314 #[.agg #[.int .u64 (h : Int), .int .u64 (l : Int)]] w fun e w' => e = .returned (.agg (bts (digB (N2 h l) 16))) ∧ Below w.heap.size w w' := by
  have K1 : Hid ((((w.alloc (.cells #[.int .u64 (h : Int), .int .u64 (l : Int)] 420)).alloc (.cells (bts z16) 365)).alloc (.cells (bts z16) 365)).cell? ⟨w.heap.size, 1, none⟩ = some (.int .u64 (l : Int))) := Lib.hid (by go_simp)
  have K2 : Hid (Bk (((w.alloc (.cells #[.int .u64 (h : Int), .int .u64 (l : Int)] 420)).alloc (.cells (bts z16) 365)).alloc (.cells (bts z16) 365)) (w.heap.size + 1) 365 z16) := Lib.hid ((Bk.newAt _ z16 (by simp)).alloc _)
  have K3 : Hid (Bk (((w.alloc (.cells #[.int .u64 (h : Int), .int .u64 (l : Int)] 420)).alloc (.cells (bts z16) 365)).alloc (.cells (bts z16) 365)) (w.heap.size + 1 + 1) 365 z16) := Lib.hid (Bk.newAt _ z16 (by simp))
  have K4 : Hid (Below w.heap.size w (((w.alloc (.cells #[.int .u64 (h : Int), .int .u64 (l : Int)] 420)).alloc (.cells (bts z16) 365)).alloc (.cells (bts z16) 365))) := Lib.hid ((((Below.refl _ _).alloc (Nat.le_refl _) _).alloc (Nat.le_of_lt (by simp)) _).alloc (by simp; omega) _)
  obtain ⟨Z, hZ⟩ : ∃ Z, Z = digB (N2 h l) 16 := ⟨_, rfl⟩
  obtain ⟨sp1, sp2⟩ := bytes_splice hh hl
  rw [← hZ] at sp2
  have lz : Z.length = 16 := by rw [hZ, digB_len]
  rw [← hZ]
  clear hZ
  have S1 := Lib.hid sp1
  have S2 := Lib.hid sp2
  have LZ := Lib.hid lz
  clear sp1 sp2 lz
  have P1 : Hid (h < 256 ^ 8) := Lib.hid hh
  have P2 : Hid (l < 256 ^ 8) := Lib.hid hl
  go_enter Tryz.func314, Tryz.ntmps314
  go_wp2_with fail
  refine (put_any h 8 _ hh (by decide) (by decide) P1.out).mono ?_
  rintro e w1 ⟨rfl, hbk, hbw⟩
  have hs1 := hbw.size
  have R2 : Hid (Bk w1 (w.heap.size + 1) 365 z16) := Lib.hid (K2.out.ab hbw)
  have R3 : Hid (Bk w1 (w.heap.size + 1 + 1) 365 z16) := Lib.hid (K3.out.ab hbw)
  have R4 : Hid (Below w.heap.size w w1) := Lib.hid (K4.out.trans (hbw.mono K4.out.size))
  have hcl : w1.cell? ⟨w.heap.size, 1, none⟩ = some (.int .u64 (l : Int)) := (hbw.cell (p := ⟨w.heap.size, 1, none⟩) (by simp; omega)).trans K1.out
  have R5 : Hid (Bk w1 (w.heap.size + 1 + 1 + 1) 5 (digB h 8)) := Lib.hid (by simpa using hbk)
  have R6 : Hid (w.heap.size + 1 + 1 + 1 < w1.heap.size) := Lib.hid R5.out.lt
  clear hbk hbw hs1
  go_wp2_with fail
  refine (put_any l 8 _ hl (by decide) (by decide) P2.out).mono ?_
  rintro e w2 ⟨rfl, hbk, hbw⟩
  have T2 : Hid (Bk w2 (w.heap.size + 1) 365 z16) := Lib.hid (R2.out.ab hbw)
  have T3 : Hid (Bk w2 (w.heap.size + 1 + 1) 365 z16) := Lib.hid (R3.out.ab hbw)
  have T4 : Hid (Below w.heap.size w w2) := Lib.hid (R4.out.trans (hbw.mono R4.out.size))
  have T5 : Hid (IsB w2 (some ⟨w.heap.size + 1 + 1 + 1, 0, none⟩) 8 8 (digB h 8)) := Lib.hid (isB_whole (R5.out.ab hbw) (digB_byt h 8) (digB_len h 8) (by decide))
  have T6 : Hid (IsB w2 (some ⟨w1.heap.size, 0, none⟩) 8 8 (digB l 8)) := Lib.hid (isB_whole hbk (digB_byt l 8) (digB_len l 8) (by decide))
  have hg : w.heap.size + 1 + 1 + 1 < w1.heap.size := R6.out
  have HG := Lib.hid hg
  generalize w1.heap.size = g1 at *
  clear hbk hbw hcl R2 R3 R4 R5 R6 K1 K2 K3 K4 hg
  go_wp2_with (first
    | (refine wpList_copyB (o := ⟨some 22, .call ⟨.builtin .copy, _, _⟩, _, _, _, _⟩) rfl _ _ rfl (w.heap.size + 1 + 1) 0 8 16 T3.out rfl rfl T5.out (by decide) (by decide) (by decide) (digB h 8 ++ zeros 8) S1.out ?_
       intro w3 hw3
       have U2 : Hid (Bk w3 (w.heap.size + 1) 365 z16) := Lib.hid (by rw [hw3]; exact T2.out.rowFar (c := w.heap.size + 1 + 1) (by omega) _)
       have U3 : Hid (Bk w3 (w.heap.size + 1 + 1) 365 (digB h 8 ++ zeros 8)) := Lib.hid (by rw [hw3]; exact T3.out.row _)
       have U4 : Hid (Below w.heap.size w w3) := Lib.hid (by rw [hw3]; exact Below.row T4.out (by omega) _)
       have U6 : Hid (IsB w3 (some ⟨g1, 0, none⟩) 8 8 (digB l 8)) := Lib.hid (by rw [hw3]; exact isB_rowFar T6.out (c' := w.heap.size + 1 + 1) (fun x hx => by injection hx with hx; subst hx; have := HG.out; show g1 ≠ _; omega) _)
       clear hw3)
    | (refine wpList_copyB (o := ⟨some 25, .call ⟨.builtin .copy, _, _⟩, _, _, _, _⟩) rfl _ _ rfl (w.heap.size + 1 + 1) 8 8 8 U3.out rfl rfl U6.out (by decide) (by decide) (by simp [digB_len, zeros_len]) Z S2.out ?_
       intro w4 hw4
       have V2 : Hid (Bk w4 (w.heap.size + 1) 365 z16) := Lib.hid (by rw [hw4]; exact U2.out.rowFar (c := w.heap.size + 1 + 1) (by omega) _)
       have V3 : Hid (Bk w4 (w.heap.size + 1 + 1) 365 Z) := Lib.hid (by rw [hw4]; exact U3.out.row _)
       have V4 : Hid (Below w.heap.size w w4) := Lib.hid (by rw [hw4]; exact Below.row U4.out (by omega) _)
       clear hw4)
    | (refine wpList_loadB (l := Z) (o := ⟨some 26, _, _, _, _, _⟩) rfl 365 (.tmp 3) rfl (w.heap.size + 1 + 1) rfl (t := 365) ?_ Tryz.underlying365 (by rw [LZ.out]; exact sz16) ?_
       · exact V3.out
       refine wpList_storeB (l := z16) (o := ⟨none, .store _ (.tmp 2) (.tmp 26), _, _, _, _⟩) rfl 365 (.tmp 2) (.tmp 26) rfl (w.heap.size + 1) rfl Z rfl (t := 365) ?_ (by rw [LZ.out]; exact sz16) (by rw [LZ.out]; rfl) ?_
       · exact V2.out))
  refine bodyPost_ret (results_bts Tryz.results314 _ _ _ rfl (V2.out.row Z) Tryz.underlying365 (by rw [LZ.out]; exact sz16)) rfl ?_
  exact ⟨rfl, Below.row V4.out (by omega) _⟩
end Go.Proofs.YtakgebbeknfplaaGreat
