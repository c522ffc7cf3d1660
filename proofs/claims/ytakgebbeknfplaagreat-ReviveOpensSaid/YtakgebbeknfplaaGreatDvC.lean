/-
  DEVICES AHEAD OF AN OPENING: bytes that somebody else writes; what is read.
-/
import Derived.Test.YtakgebbeknfplaaGreatDvB
namespace Go.Proofs.YtakgebbeknfplaaGreat
open Go.RowKit Go.ChangeShapes Go.WideShapes
set_option linter.unusedVariables false
set_option linter.unusedSimpArgs false

theorem fr_row (w : World) (g : Nat) (cs : Array Value) : Fr w (w.setRow g cs) (fun q => q = g) := ⟨rfl, rfl, rfl, by simp, fun k _ hk => setRow_other w g k cs hk⟩
theorem szByteI : ∃ i : TypeInfo, Tryz.prog.info? 5 = some i := by
  obtain ⟨i0, hi0, _⟩ := info_parts infoU8
  exact ⟨i0, hi0⟩
theorem run_copy0 (W : World) (ty : TypeId) (x : Addr) (d dc : Nat) (A : Option Addr) (c : Nat) :
    (Builtin.copy_ #[22, 22] ty #[.slice (some x) d dc, .slice A 0 c]).run Tryz.prog W = .ok (goInt 0) W := by
  obtain ⟨i0, hi0⟩ := szByteI
  cases A <;> simp [Builtin.copy_, run_underlying Tryz.underlying22, Builtin.lenOf, Builtin.firstCells, loadCells, loadCellsFrom, storeCells, sizeOf, typeInfo, hi0]
theorem wpList_copy0 {ops : Array Oper} {rest : List Oper} {o : Oper} {a : Act} {w : World} {Q : Exit → Act → World → Prop} (hgd : o.guard = none) (s x : Operand)
    (ho : o.op = .call { callee := .builtin .copy, args := #[s, x], argTypes := #[22, 22] })
    (y : Addr) (d dc : Nat) (hs : a.eval s = .slice (some y) d dc) {A : Option Addr} {c : Nat} (hx : a.eval x = .slice A 0 c)
    (h : wpList Tryz.prog ops Q rest (a.put o.dst (goInt 0)) w) : wpList Tryz.prog ops Q (o :: rest) a w := by
  have hrun := run_copy0 w o.type y d dc A c
  refine wpList_plain hgd fun K hK => ?_
  unfold Oper.wp execOp
  simp only [ho, resolve, invoke, builtin, Sem.run_bind, Sem.run_pure, Result.andThen_ok, List.map_toArray, List.map_cons, List.map_nil, hs, hx, hrun]
  exact hK _ _ h
section
variable (B d g1 g2 : Nat) (st cut : Int) (down : Bool) (L : List Nat) (w : World)
set_option maxRecDepth 100000 in
theorem has_any (i : Nat) (hi : i < 8) (h : DkB w B d g1 g2 st cut down L) :
    Calls Tryz.prog 82 #[.pointer (some ⟨d, 0, none⟩), .int .i64 (i : Int)] w fun e w' => e = .returned (.bool true) ∧ w = w' := by
  have c0 := h.box.cell (k := 0) rfl
  have h0 : (0 : Int) ≤ (i : Int) := by omega
  have h1 : (i : Int) < 8 := by omega
  clear h hi
  go_enter Tryz.func82, Tryz.ntmps82
  go_wp2_with fail
  go_ret
  exact ⟨rfl, rfl⟩
set_option maxRecDepth 100000 in
theorem foreign_no (i : Nat) (hi : i < 8) (bA : Option Addr) (bn bc : Nat) (h : DkB w B d g1 g2 st cut down L) (hn : 256 < bn) :
    Calls Tryz.prog 19 #[.pointer (some ⟨d, 0, none⟩), .int .i64 (i : Int), .int .i64 0, .slice bA bn bc] w fun e w' => e = .returned (.int .i64 2) ∧ w = w' := by
  have HH := Lib.hid (has_any B d g1 g2 st cut down L w i hi h)
  have h1 : (256 : Int) < (bn : Int) := by omega
  clear h hi hn
  go_enter Tryz.func19, Tryz.ntmps19
  go_wp2_with fail
  refine HH.out.mono ?_
  rintro e w1 ⟨rfl, rfl⟩
  go_wp2_with fail
  go_ret
  exact ⟨rfl, rfl⟩
set_option maxRecDepth 100000 in
set_option maxHeartbeats 4000000 in
theorem foreign_yes (i : Nat) (hi : i < 8) (bA : Option Addr) (bn bc : Nat) (b : List Nat) (h : DkB w B d g1 g2 st cut down L) (ib : IsB w bA bn bc b) (hn : ¬ 256 < bn) (hA : 0 < bn → ∀ x, bA = some x → x.block ≠ g1 ∧ x.block ≠ g2) :
    Calls Tryz.prog 19 #[.pointer (some ⟨d, 0, none⟩), .int .i64 (i : Int), .int .i64 0, .slice bA bn bc] w fun e w' => e = .returned (.int .i64 0) ∧ DkB w' B d g1 g2 st cut down (putD L b i) ∧ Fr w w' (fun k => k = g1 ∨ k = g2) := by
  have HH := Lib.hid (has_any B d g1 g2 st cut down L w i hi h)
  have h1 : ¬ (256 : Int) < (bn : Int) := by omega
  have c0 := h.box.cell (k := 0) rfl
  have c1 := h.box.cell (k := 1) rfl
  have i0 : (0 : Int) ≤ (i : Int) := by omega
  have i1 : (i : Int) < 8 := by omega
  have HD := Lib.hid h
  have IB := Lib.hid ib
  have ib' := ib
  have ib2 : Byt b := ib.2
  clear h ib
  go_enter Tryz.func19, Tryz.ntmps19
  go_wp2_with fail
  refine HH.out.mono ?_
  rintro e w1 ⟨rfl, rfl⟩
  have BL := Lib.hid ib'.len
  have HI := Lib.hid hi
  have HA := Lib.hid hA
  obtain ⟨L2, hf2, hl2⟩ := HD.out.firm
  have F2 := Lib.hid hf2
  have FL := Lib.hid hl2
  clear hf2 hl2
  by_cases h0 : bn = 0
  · subst h0
    have hb0 : b = [] := List.eq_nil_of_length_eq_zero BL.out
    have hp : putD L b i = L := by rw [hb0]; simp [putD]

    go_wp2_with (first
      | (refine wpList_copy0 (o := ⟨some 39, .call ⟨.builtin .copy, _, _⟩, _, _, _, _⟩) rfl _ _ rfl ⟨g1, i * 256, none⟩ 256 256 rfl rfl ?_)
      | (refine wpList_copy0 (o := ⟨some 49, .call ⟨.builtin .copy, _, _⟩, _, _, _, _⟩) rfl _ _ rfl ⟨g2, i * 256, none⟩ 256 256 rfl rfl ?_))
    go_ret
    exact ⟨rfl, by rw [hp]; exact HD.out, Fr.of (Below.refl _ _) _⟩
  · have hp : L.take (i * 256) ++ (b ++ L.drop (i * 256 + bn)) = putD L b i := by unfold putD; rw [BL.out]
    have HP := Lib.hid hp
    have H0 := Lib.hid (show 0 < bn by omega)
    have HN := Lib.hid (show bn ≤ 256 by omega)
    clear hp h0
    go_wp2_with (first
      | (refine wpList_copyB (o := ⟨some 39, .call ⟨.builtin .copy, _, _⟩, _, _, _, _⟩) rfl _ _ rfl g1 (i * 256) 256 256 HD.out.now rfl rfl IB.out H0.out HN.out (by rw [HD.out.len]; have := HI.out; have := HN.out; omega) (putD L b i) HP.out ?_
         intro w2 hw2
         have D2 : Hid (CbB w2 d 164 _) := Lib.hid (by rw [hw2]; exact HD.out.box.rowFar HD.out.dne.1 _)
         have N2 : Hid (Bk w2 g1 179 (putD L b i)) := Lib.hid (by rw [hw2]; exact HD.out.now.row _)
         have M2 : Hid (Bk w2 g2 179 L2) := Lib.hid (by rw [hw2]; exact F2.out.rowFar (Ne.symm HD.out.ne) _)
         have I2 : Hid (IsB w2 bA bn bc b) := Lib.hid (by rw [hw2]; exact isB_rowFar IB.out (fun x hx => (HA.out H0.out x hx).1) _)
         have R2 : Hid (Fr w w2 (fun k => k = g1)) := Lib.hid (by rw [hw2]; exact fr_row _ _ _)
         have c1b := D2.out.cell (k := 1) rfl
         clear hw2)
      | (refine wpList_copyB (o := ⟨some 49, .call ⟨.builtin .copy, _, _⟩, _, _, _, _⟩) rfl _ _ rfl g2 (i * 256) 256 256 M2.out rfl rfl I2.out H0.out HN.out (by rw [FL.out]; have := HI.out; have := HN.out; omega) (L2.take (i * 256) ++ (b ++ L2.drop (i * 256 + bn))) rfl ?_
         intro w3 hw3
         have D3 : Hid (CbB w3 d 164 _) := Lib.hid (by rw [hw3]; exact D2.out.rowFar HD.out.dne.2 _)
         have N3 : Hid (Bk w3 g1 179 (putD L b i)) := Lib.hid (by rw [hw3]; exact N2.out.rowFar HD.out.ne _)
         have M3 : Hid (Bk w3 g2 179 (L2.take (i * 256) ++ (b ++ L2.drop (i * 256 + bn)))) := Lib.hid (by rw [hw3]; exact M2.out.row _)
         have R3 : Hid (Fr w w3 (fun k => k = g1 ∨ k = g2)) := Lib.hid (by rw [hw3]; exact (R2.out.imp fun k hk => .inl hk).tr ((fr_row _ _ _).imp fun k hk => .inr hk))
         clear hw3))
    go_ret
    exact ⟨rfl, ⟨D3.out, N3.out, ⟨_, M3.out, by rw [List.length_append, List.length_append, List.length_take, List.length_drop, FL.out, BL.out]; have := HI.out; have := HN.out; omega⟩, putD_len HD.out.len hi (by rw [BL.out]; exact HN.out), putD_byt HD.out.byt ib2, HD.out.ne, HD.out.low⟩, R3.out⟩
end
end Go.Proofs.YtakgebbeknfplaaGreat
