/-
  WALKS: hier.drawn, Root, Wrapper (P22.1). WALKS: hier.Root, Wrapper, number, around, Mark, Wrap, Unwrap.
  WALKS: ref22: Number, block, Drawn, Mark, nonce, beside, Wrap, Unwrap. WALKS: ref22: Wrap, Unwrap, Same. WALKS: law22's lent, kept, known; ref22's Same.
-/
import Derived.Test.YtgnooakjkpkgiaaGcL
import Derived.Test.YtgnooakjkpkgiaaWid3
import Derived.Test.YtgnooakjkpkgiaaOpn
import Derived.Lib.SmallJoins
namespace Go.Proofs.Ytgnooakjkpkgiaa
open Go.RowKit
set_option linter.unusedVariables false

/-- a purpose's block -/
def blkH (p gn i : Nat) : List Nat := [p, gn / 256, gn % 256, 0, 0, 0, 0, 0, 0, 0, 0, 0, 0, 0, 0, i]
theorem blkH_len (p gn i : Nat) : (blkH p gn i).length = 16 := rfl
theorem blkH_byt {p gn i : Nat} (hp : p < 256) (hg : gn < 65536) (hi : i < 256) : Byt (blkH p gn i) := fun x hx => by
  simp only [blkH, List.mem_cons, List.not_mem_nil, or_false] at hx
  omega
def drawnN (key : List Nat) (p gn : Nat) : Nat → List Nat
  | 0 => []
  | i + 1 => drawnN key p gn i ++ encA key (blkH p gn i)
def drawnA (key : List Nat) (p gn : Nat) : List Nat := drawnN key p gn 2
theorem drawnN_len (key : List Nat) (p gn : Nat) : ∀ i, (drawnN key p gn i).length = 16 * i
  | 0 => rfl
  | i + 1 => by rw [drawnN, List.length_append, drawnN_len key p gn i, encA_len]; omega
theorem drawnA_len (key : List Nat) (p gn : Nat) : (drawnA key p gn).length = 32 := drawnN_len key p gn 2
def drawnS (key : List Nat) (p gn : Nat) : List Nat × Nat := if key.length = 32 then (drawnA key p gn, 0) else ([], 2)
/-- the closure's variables: the cipher, the purpose, the generation -/
structure Drw (w : World) (B C b g : Nat) (key : List Nat) (p gn : Nat) : Prop where
  cc : w.heap[C]? = some (.cells #[.pointer (some ⟨g, 0, none⟩)] 138 (0, 0))
  pc : w.heap[B]? = some (.cells #[.int .u8 (p : Int)] 5 (0, 0))
  gc : w.heap[B + 1]? = some (.cells #[.int .u16 (gn : Int)] 23 (0, 0))
  cip : CipK w b g (key.length / 4) key
theorem Drw.ab {w w' : World} {B C b g : Nat} {key : List Nat} {p gn : Nat} (h : Drw w B C b g key p gn) (hb : Below w.heap.size w w') : Drw w' B C b g key p gn :=
  ⟨(hb.block _ (lt_of_block h.cc)).trans h.cc, (hb.block _ (lt_of_block h.pc)).trans h.pc, (hb.block _ (lt_of_block h.gc)).trans h.gc, h.cip.ab hb⟩
set_option maxRecDepth 100000 in
set_option maxHeartbeats 2000000 in
theorem drawn1_any (B C b g : Nat) (key : List Nat) (p gn i : Nat) (w : World) (h : Drw w B C b g key p gn) (hk : KeyOk key) (hb : Byt key) (hp : p < 256) (hg : gn < 65536) (hi : i < 256) :
    Calls Try.prog 122 #[.int .i64 (i : Int), .pointer (some ⟨C, 0, none⟩), .pointer (some ⟨B, 0, none⟩), .pointer (some ⟨B + 1, 0, none⟩)] w fun e w' => e = .returned (.tuple #[.agg (bts (encA key (blkH p gn i))), .int .i64 0]) ∧ Below w.heap.size w w' := by
  have hA := (Below.refl w.heap.size w).alloc (Nat.le_refl _) (.cells #[Value.int .u8 0, Value.int .u8 0, Value.int .u8 0, Value.int .u8 0, Value.int .u8 0, Value.int .u8 0, Value.int .u8 0, Value.int .u8 0, Value.int .u8 0, Value.int .u8 0, Value.int .u8 0, Value.int .u8 0, Value.int .u8 0, Value.int .u8 0, Value.int .u8 0, Value.int .u8 0] 26)
  have h2 := h.ab hA
  have c0 : (w.alloc (.cells #[Value.int .u8 0, Value.int .u8 0, Value.int .u8 0, Value.int .u8 0, Value.int .u8 0, Value.int .u8 0, Value.int .u8 0, Value.int .u8 0, Value.int .u8 0, Value.int .u8 0, Value.int .u8 0, Value.int .u8 0, Value.int .u8 0, Value.int .u8 0, Value.int .u8 0, Value.int .u8 0] 26)).cell? ⟨C, 0, none⟩ = some (.pointer (some ⟨g, 0, none⟩)) := by rw [cell_of_row _ _ 0 _ _ (0, 0) h2.cc]; rfl
  have c1 : (w.alloc (.cells #[Value.int .u8 0, Value.int .u8 0, Value.int .u8 0, Value.int .u8 0, Value.int .u8 0, Value.int .u8 0, Value.int .u8 0, Value.int .u8 0, Value.int .u8 0, Value.int .u8 0, Value.int .u8 0, Value.int .u8 0, Value.int .u8 0, Value.int .u8 0, Value.int .u8 0, Value.int .u8 0] 26)).cell? ⟨B, 0, none⟩ = some (.int .u8 (p : Int)) := by rw [cell_of_row _ _ 0 _ _ (0, 0) h2.pc]; rfl
  have c2 : (w.alloc (.cells #[Value.int .u8 0, Value.int .u8 0, Value.int .u8 0, Value.int .u8 0, Value.int .u8 0, Value.int .u8 0, Value.int .u8 0, Value.int .u8 0, Value.int .u8 0, Value.int .u8 0, Value.int .u8 0, Value.int .u8 0, Value.int .u8 0, Value.int .u8 0, Value.int .u8 0, Value.int .u8 0] 26)).cell? ⟨B + 1, 0, none⟩ = some (.int .u16 (gn : Int)) := by rw [cell_of_row _ _ 0 _ _ (0, 0) h2.gc]; rfl
  have hen := fun W hC => encC_any b g (key.length / 4) key (blkH p gn i) W hk.four hk.len hb (blkH_byt hp hg hi) (blkH_len p gn i) hC
  have le := encA_len key (blkH p gn i)
  rw [show encK (wordsAll (key.length / 4) key) (key.length / 4 + 6) (blkH p gn i) = encA key (blkH p gn i) from rfl] at hen
  have HEN : Hid (∀ W, CipK W b g (key.length / 4) key → Calls Try.prog 77 #[.pointer (some ⟨g, 0, none⟩), .agg #[.int .u8 (p : Int), .int .u8 ((gn / 256 : Nat) : Int), .int .u8 ((gn % 256 : Nat) : Int), .int .u8 0, .int .u8 0, .int .u8 0, .int .u8 0, .int .u8 0, .int .u8 0, .int .u8 0, .int .u8 0, .int .u8 0, .int .u8 0, .int .u8 0, .int .u8 0, .int .u8 (i : Int)]] W fun e w' => e = .returned (.tuple #[.agg (bts (encA key (blkH p gn i))), .int .i64 0]) ∧ Below W.heap.size W w') := Lib.hid hen
  generalize encA key (blkH p gn i) = en at *
  have q1 : (gn : Int) / 2 ^ 8 = ((gn / 256 : Nat) : Int) := by omega
  have q1' : (gn : Int) / 256 = ((gn / 256 : Nat) : Int) := by omega
  have q2 : IntKind.u8.wrap ((gn / 256 : Nat) : Int) = ((gn / 256 : Nat) : Int) := by show ((gn / 256 : Nat) : Int) % 256 = _; omega
  have q3 : IntKind.u8.wrap (gn : Int) = ((gn % 256 : Nat) : Int) := by show (gn : Int) % 256 = _; omega
  have q4 : IntKind.u8.wrap (i : Int) = (i : Int) := by show (i : Int) % 256 = _; omega
  have q5 : IntKind.u16.wrap ((gn / 256 : Nat) : Int) = ((gn / 256 : Nat) : Int) := by show ((gn / 256 : Nat) : Int) % 65536 = _; omega
  have H2 := Lib.hid h2
  have HA := Lib.hid hA
  have LE := Lib.hid le
  have RB : Hid (Bk (w.alloc (.cells #[Value.int .u8 0, Value.int .u8 0, Value.int .u8 0, Value.int .u8 0, Value.int .u8 0, Value.int .u8 0, Value.int .u8 0, Value.int .u8 0, Value.int .u8 0, Value.int .u8 0, Value.int .u8 0, Value.int .u8 0, Value.int .u8 0, Value.int .u8 0, Value.int .u8 0, Value.int .u8 0] 26)) w.heap.size 26 z16) := Lib.hid (show Bk (w.alloc (.cells (bts z16) 26)) w.heap.size 26 z16 from Bk.newAt _ z16 rfl)
  clear h h2 hen le hk hb hA
  generalize hD : ((gn / 256 : Nat) : Int) = D at *
  generalize hR : ((gn % 256 : Nat) : Int) = R at *
  clear hD hR
  go_enter Try.func122, Try.ntmps122
  go_wp2_with fail
  refine (HEN.out _ H2.out.cip).mono ?_
  rintro e w1 ⟨rfl, hb1⟩
  have R1 := Lib.hid (RB.out.ab hb1)
  have B1 := Lib.hid (below_tr HA.out hb1 HA.out.size)
  clear hb1 H2 HA RB HEN c0 c1 c2
  go_wp2_with (refine wpList_storeN (l := z16) (o := ⟨none, .store _ (.tmp 5) (.tmp 18), _, _, _, _⟩) rfl 26 (.tmp 5) (.tmp 18) rfl w.heap.size rfl en rfl (t := 26) ?_ (by rw [LE.out]; exact sz16) (by rw [LE.out]; rfl) ?_
               · exact R1.out
               intro w2 hw2
               have C1 : Hid (Bk w2 w.heap.size 26 en) := Lib.hid (by rw [hw2]; exact R1.out.row _)
               have C2 : Hid (Below w.heap.size w w2) := Lib.hid (by rw [hw2]; exact Below.row B1.out (Nat.le_refl _) _)
               clear hw2)
  refine bodyPost_ret (results_bts2 Try.results122 _ _ _ rfl C1.out Try.underlying26 (by rw [LE.out]; exact sz16)) rfl ?_
  exact ⟨rfl, C2.out⟩
theorem drawnS_byt {key : List Nat} (hk : KeyOk key) (hb : Byt key) {p gn : Nat} (hp : p < 256) (hg : gn < 65536) : ∀ i, i ≤ 256 → Byt (drawnN key p gn i)
  | 0, _ => fun x hx => by cases hx
  | i + 1, h => byt_app (drawnS_byt hk hb hp hg i (by omega)) (encA_byt hk hb (blkH_byt hp hg (by omega)))
theorem drawnA_byt {key : List Nat} (hk : KeyOk key) (hb : Byt key) {p gn : Nat} (hp : p < 256) (hg : gn < 65536) : Byt (drawnA key p gn) := drawnS_byt hk hb hp hg 2 (by decide)
set_option maxRecDepth 100000 in
set_option maxHeartbeats 1000000 in
theorem drawn_bad (A : Option Addr) (n c p gn : Nat) (w : World) (hn : n ≠ 32) :
    Calls Try.prog 72 #[.slice A n c, .int .i64 32, .int .u8 (p : Int), .int .u16 (gn : Int), .int .i64 2] w (OutB w [] 2) := by
  have h1 : ((n : Int) != 32) = true := by simp; omega
  have B0 : Hid (Below w.heap.size w ((w.alloc (.cells #[.int .u8 (p : Int)] 5)).alloc (.cells #[.int .u16 (gn : Int)] 23))) := Lib.hid (((Below.refl _ _).alloc (Nat.le_refl _) _).alloc (Nat.le_of_lt (by simp)) _)
  go_enter Try.func72, Try.ntmps72
  go_wp2_with fail
  go_ret2
  exact OutB.refused 2 B0.out
set_option maxRecDepth 100000 in
set_option maxHeartbeats 4000000 in
theorem drawn_ok (A : Option Addr) (c p gn : Nat) (key : List Nat) (w : World) (ik : IsB w A 32 c key) (hp : p < 256) (hg : gn < 65536) :
    Calls Try.prog 72 #[.slice A 32 c, .int .i64 32, .int .u8 (p : Int), .int .u16 (gn : Int), .int .i64 2] w (OutB w (drawnA key p gn) 0) := by
  obtain ⟨i0, hi0, hz0, hz1, hz2⟩ := info_parts infoU8
  have lk := ik.len
  have hK : KeyOk key := .inr lk
  have hmf : ∀ (fn : Fn) (first cap : Array Value) (w : World), (Instr.makeFunc fn first cap).run Try.prog w = .ok (.func fn first cap) w := fun _ _ _ _ => rfl
  have hnew := fun W h => new_any (key.length / 4) 32 key A c W hK.four (by rw [lk]) h
  have hd1 := fun C b g i W (hi : i < 256) h => drawn1_any w.heap.size C b g key p gn i W h hK ik.2 hp hg hi
  have hby := fun i (hi : i < 256) => encA_byt hK ik.2 (blkH_byt hp hg hi)
  have hle := fun i => encA_len key (blkH p gn i)
  have hdl := drawnN_len key p gn
  have B0 : Hid (Below w.heap.size w ((w.alloc (.cells #[.int .u8 (p : Int)] 5)).alloc (.cells #[.int .u16 (gn : Int)] 23))) := Lib.hid (((Below.refl _ _).alloc (Nat.le_refl _) _).alloc (Nat.le_of_lt (by simp)) _)
  have IK : Hid (IsB ((w.alloc (.cells #[.int .u8 (p : Int)] 5)).alloc (.cells #[.int .u16 (gn : Int)] 23)) A 32 c key) := Lib.hid ((ik.alloc _).alloc _)
  have P0 : Hid (((w.alloc (.cells #[.int .u8 (p : Int)] 5)).alloc (.cells #[.int .u16 (gn : Int)] 23)).heap[w.heap.size]? = some (.cells #[.int .u8 (p : Int)] 5 (0, 0))) := Lib.hid ((Below.heap_alloc _ _ _ (by simp)).trans (heap_alloc_new w _))
  have Q0 : Hid (((w.alloc (.cells #[.int .u8 (p : Int)] 5)).alloc (.cells #[.int .u16 (gn : Int)] 23)).heap[w.heap.size + 1]? = some (.cells #[.int .u16 (gn : Int)] 23 (0, 0))) := Lib.hid (by
    have := heap_alloc_new (w.alloc (.cells #[.int .u8 (p : Int)] 5)) (.cells #[.int .u16 (gn : Int)] 23)
    rw [show (w.alloc (.cells #[.int .u8 (p : Int)] 5)).heap.size = w.heap.size + 1 by simp] at this
    exact this)
  have HN := Lib.hid hnew
  have HD := Lib.hid hd1
  have HBY := Lib.hid hby
  have HLE := Lib.hid hle
  have HDL := Lib.hid hdl
  clear hnew hd1 hby hle hdl ik lk hK
  go_enter Try.func72, Try.ntmps72
  go_wp2_with fail
  refine (HN.out _ IK.out).mono ?_
  rintro e w1 ⟨b, g, rfl, hbg, hwb, hC, hb1⟩
  have B1 := Lib.hid (below_tr B0.out hb1 B0.out.size)
  have D1 : Hid (Drw (w1.alloc (.cells #[.pointer (some ⟨g, 0, none⟩)] 138)) w.heap.size w1.heap.size b g key p gn) := Lib.hid
    ⟨heap_alloc_new w1 _, (Below.heap_alloc _ _ _ (lt_of_block ((hb1.block _ (lt_of_block P0.out)).trans P0.out))).trans ((hb1.block _ (lt_of_block P0.out)).trans P0.out), (Below.heap_alloc _ _ _ (lt_of_block ((hb1.block _ (lt_of_block Q0.out)).trans Q0.out))).trans ((hb1.block _ (lt_of_block Q0.out)).trans Q0.out), hC.ab ((Below.refl _ _).alloc (Nat.le_refl _) _)⟩
  have B2 : Hid (Below w.heap.size w (w1.alloc (.cells #[.pointer (some ⟨g, 0, none⟩)] 138))) := Lib.hid (B1.out.alloc B1.out.size _)
  clear hb1 hC hbg hwb HN IK P0 Q0 B0 B1
  go_wp2_with fail
  generalize w1.alloc (.cells #[.pointer (some ⟨g, 0, none⟩)] 138) = w2 at *
  generalize w1.heap.size = C at *
  go_loopw [15, 16, 17, 18, 33] (fun v _ _ _ j wr => ∃ i : Nat, i ≤ 2 ∧ j = .int .i64 i ∧ OwB wr w2.heap.size v (drawnN key p gn i) ∧ Below w2.heap.size w2 wr) (fun _ _ _ _ j _ => 2 - (intOf j).toNat)
  case atStart => exact ⟨0, by omega, rfl, OwB.nil _ _, Below.refl _ _⟩
  case round =>
    obtain ⟨i, hi, rfl, ho, kb⟩ := hrel
    by_cases hlt : i < 2
    · have hii : (i : Int) < 2 := by omega
      have HO := Lib.hid ho
      have KB := Lib.hid kb
      have HI := Lib.hid hlt
      clear ho kb hlt
      go_wp2_with fail
      refine (HD.out C b g i wr (by have := HI.out; omega) (D1.out.ab KB.out)).mono ?_
      rintro e w3 ⟨rfl, hb3⟩
      have EL := HLE.out i
      have EB := HBY.out i (by have := HI.out; omega)
      have DN : drawnN key p gn (i + 1) = drawnN key p gn i ++ encA key (blkH p gn i) := rfl
      generalize encA key (blkH p gn i) = en at *
      have HEL := Lib.hid EL
      have HEB := Lib.hid EB
      have HDN := Lib.hid DN
      have O3 := Lib.hid (HO.out.ab hb3)
      have K3 := Lib.hid (below_tr KB.out hb3 KB.out.size)
      clear hb3 EL EB DN HO KB
      go_wp2_with (first
        | ((with_reducible refine wpList_storeN (l := z16) (o := ⟨none, .store _ (.tmp 17) (.tmp 40), _, _, _, _⟩) rfl 26 (.tmp 17) (.tmp 40) ?_ w3.heap.size ?_ en ?_ (t := 26) ?_ ?_ ?_ ?_)
           · rfl
           · rfl
           · rfl
           · exact Bk.newAt _ z16 rfl
           · (rw [HEL.out]; exact sz16)
           · (rw [HEL.out]; rfl)
           intro w4 hw4
           have E4 : Hid (IsB w4 (some ⟨w3.heap.size, 0, none⟩) 16 16 en) := Lib.hid (isB_whole (by rw [hw4]; exact (show Bk (w3.alloc (.cells (bts z16) 26)) w3.heap.size 26 z16 from Bk.newAt _ z16 rfl).row _) HEB.out HEL.out (by decide))
           have hb4 : Below w3.heap.size w3 w4 := by rw [hw4]; exact Below.row ((Below.refl _ _).alloc (Nat.le_refl _) _) (Nat.le_refl _) _
           have O4 := Lib.hid (O3.out.ab hb4)
           have K4 := Lib.hid (below_tr K3.out hb4 K3.out.size)
           clear hw4 hb4)
        | (refine wpList_appB _ rfl (.tmp 45) (.tmp 46) rfl Try.underlying27 hi0 hz0 hz1 hz2 rfl O4.out rfl E4.out rfl (by rw [HDL.out]; have := HI.out; omega) K4.out.size ?_
           intro v5 w5 hv5 hb5 hg5 hat5
           rw [← HDN.out] at hv5
           have V5 := Lib.hid hv5
           have K5 := Lib.hid (K4.out.trans hb5)
           clear hv5 hb5 hg5 hat5))
      go_roundw
      case rel =>
        first
          | exact ⟨i + 1, by have := HI.out; omega, by go_num, V5.out, K5.out⟩
          | (repeat apply Exists.intro
             exact ⟨⟨i + 1, by have := HI.out; omega, by go_num, V5.out, K5.out⟩, rfl⟩)
      case measure => simp [intOf]; omega
    · obtain rfl : i = 2 := by omega
      have V := Lib.hid (ho.lower (B' := w.heap.size) B2.out.size)
      have K := Lib.hid (below_tr B2.out kb B2.out.size)
      clear ho kb
      go_wp2_with fail
      go_ret2
      exact ⟨_, rfl, V.out, K.out⟩
theorem drawn_any (A : Option Addr) (n c p gn : Nat) (key : List Nat) (w : World) (ik : IsB w A n c key) (hp : p < 256) (hg : gn < 65536) :
    Calls Try.prog 72 #[.slice A n c, .int .i64 32, .int .u8 (p : Int), .int .u16 (gn : Int), .int .i64 2] w (OutB w (drawnS key p gn).1 (drawnS key p gn).2) := by
  have lk := ik.len
  unfold drawnS
  by_cases h : n = 32
  · subst h
    rw [if_pos lk]
    exact drawn_ok A c p gn key w ik hp hg
  · rw [if_neg (by omega)]
    exact drawn_bad A n c p gn w h
end Go.Proofs.Ytgnooakjkpkgiaa

namespace Go.Proofs.Ytgnooakjkpkgiaa
open Go.RowKit
set_option linter.unusedVariables false

theorem wide_u64 (n : Nat) (h : n < 18446744073709551616) : IntKind.u64.wrap (n : Int) = (n : Int) := wrap_u64' (n := n) (by omega) _ (by omega) (by omega)
theorem exec_move {P : Program} {r : Operand → Value} {o : Oper} (x : Operand) (h : o.op = .move x) (w : World) : (execOp r o).run P w = .ok (.value (r x)) w := by
  unfold execOp
  simp only [h, Sem.run_pure]
theorem yields_value2 {P : Program} {o : Oper} {a : Act} {W : World} {R : Value → World → Prop} (v : Value) (W' : World) (h : (execOp a.eval o).run P W = .ok (.value v) W') (hR : R v W') (hb : Below W.heap.size W W') : Yields P o a W false R := .inl ⟨v, W', h, hR, hb, fresh_no _ _ _⟩
theorem cell_isB {w : World} {b : Addr} {n c : Nat} {l : List Nat} (h : IsB w (some b) n c l) : ∀ j u, (bvals l)[j]? = some u → w.cell? (b.add j) = some u := fun j u hj => by
  have l1 := h.len
  have hj' : j < n := by
    rcases Nat.lt_or_ge j n with h | h
    · exact h
    · rw [List.getElem?_eq_none (by simp [bvals]; omega)] at hj; cases hj
  obtain ⟨y, e, _, hy⟩ := h.cell (by omega)
  injection e with e
  subst e
  rw [hy j hj', ← hj]
  simp [bvals, at', List.getElem?_eq_getElem (show j < l.length by omega)]
/-- an append without room, as a head -/
theorem yields_appGrow {o : Oper} {a : Act} {W : World} {R : Value → World → Prop} (s x : Operand) (ho : o.op = .call { callee := .builtin .append, args := #[s, x], argTypes := #[27, 27] })
    {b : Addr} {n c : Nat} {la : List Nat} (ha : IsB W (some b) n c la) (hs : a.eval s = .slice (some b) n c) {X : Addr} {m d : Nat} {lx : List Nat} (hx : IsB W (some X) m d lx) (he : a.eval x = .slice (some X) m d)
    (hfull : c < n + m) (hm : n + m ≤ 140737488355328) (hR : ∀ v' W', OwB W' W.heap.size v' (la ++ lx) → Below W.heap.size W W' → R v' W') : Yields Try.prog o a W false R := by
  obtain ⟨i0, hi0, hz0, hz1, hz2⟩ := info_parts infoU8
  have l1 := ha.len
  have l2 := hx.len
  obtain ⟨v', w', hrun, r1, r2⟩ := run_append_arg_grows (P := Try.prog) W 27 o.type 5 i0 _ 1 1 Try.underlying27 hi0 hz0 hz1 hz2 rfl (by decide) b n c (bvals la) (by simp [bvals, l1]) (cell_isB ha) X m d (bvals lx) (by simp [bvals, l2]) (cell_isB hx) hfull (by simp only [maxLen]; omega) (by omega)
  have hb : Below W.heap.size W w' := ⟨r2.os, r2.tape, r2.output, r2.size, fun k hk => r2.block k hk (by simp)⟩
  have hw : OwB w' W.heap.size v' (la ++ lx) := by
    refine ⟨?_, byt_app ha.2 hx.2⟩
    rw [List.length_append, l1, l2]
    have e : bvals la ++ bvals lx = bvals (la ++ lx) := by simp [bvals]
    rw [← e]
    exact r1
  refine yields_value2 v' w' ?_ (hR _ _ hw hb) hb
  simp [execOp, ho, resolve, invoke, builtin, hs, he, hrun, Result.andThen]
theorem root_any (A : Option Addr) (n c gn : Nat) (key : List Nat) (w : World) (ik : IsB w A n c key) (hg : gn < 65536) :
    Calls Try.prog 18 #[.slice A n c, .int .u16 (gn : Int)] w (OutB w (drawnS key 1 gn).1 (drawnS key 1 gn).2) := by
  have HD := Lib.hid (drawn_any A n c 1 gn key w ik (by decide) hg)
  go_enter Try.func18, Try.ntmps18
  go_wp2_with fail
  refine HD.out.mono ?_
  rintro e w1 ⟨v, rfl, hv, hb⟩
  go_wp2_with fail
  go_ret2
  exact ⟨_, rfl, hv, hb⟩
theorem wrapper_any (A : Option Addr) (n c gn : Nat) (key : List Nat) (w : World) (ik : IsB w A n c key) (hg : gn < 65536) :
    Calls Try.prog 73 #[.slice A n c, .int .u16 (gn : Int)] w (OutB w (drawnS key 2 gn).1 (drawnS key 2 gn).2) := by
  have HD := Lib.hid (drawn_any A n c 2 gn key w ik (by decide) hg)
  go_enter Try.func73, Try.ntmps73
  go_wp2_with fail
  refine HD.out.mono ?_
  rintro e w1 ⟨v, rfl, hv, hb⟩
  go_wp2_with fail
  go_ret2
  exact ⟨_, rfl, hv, hb⟩
theorem hnum_any (m n : Nat) (w : World) (hm : m < 18446744073709551616) (h1 : 1 ≤ n) (h8 : n ≤ 8) (hfit : m < 256 ^ n) :
    Calls Try.prog 123 #[.int .u64 (m : Int), .int .i64 (n : Int)] w fun e w' => e = .returned (.slice (some ⟨w.heap.size, 0, none⟩) n n) ∧ Bk w' w.heap.size 5 (digB m n) ∧ Below w.heap.size w w' := by
  have HP := Lib.hid (put_any m n w hm h1 h8 hfit)
  go_enter Try.func123, Try.ntmps123
  go_wp2_with fail
  refine HP.out.mono ?_
  rintro e w1 ⟨rfl, hv, hb⟩
  go_wp2_with fail
  go_ret
  exact ⟨rfl, hv, hb⟩
theorem bk_own {w : World} {B g m n : Nat} (h : Bk w g 5 (digB m n)) (hB : B ≤ g) (hn : n ≤ 8) : OwB w B (.slice (some ⟨g, 0, none⟩) n n) (digB m n) :=
  OwB.ofBk h hB (digB_len _ _) (Nat.le_refl _) (digB_len _ _) (by omega) (List.take_of_length_le (by rw [digB_len]; omega)) (digB_byt _ _)
theorem OwB.cut {w : World} {B : Nat} {v : Value} {l : List Nat} {n : Nat} (h : OwB w B v l) (hl : l.length = n) (h0 : 0 < n) : ∃ g c, v = .slice (some ⟨g, 0, none⟩) n c ∧ IsB w (some ⟨g, 0, none⟩) n c l := by
  obtain ⟨g, c, rfl, -⟩ := h.form (by omega)
  rw [hl] at h ⊢
  exact ⟨g, c, rfl, h.isB hl⟩
/-- a wrapped key's nonce, and what stands beside it -/
def nonH (ten cm : Nat) : List Nat := digB ten 4 ++ digB cm 8
def besH (ten gn : Nat) : List Nat := digB ten 4 ++ digB gn 2
theorem nonH_len (ten cm : Nat) : (nonH ten cm).length = 12 := by simp [nonH, digB_len]
theorem besH_len (ten gn : Nat) : (besH ten gn).length = 6 := by simp [besH, digB_len]
set_option maxRecDepth 100000 in
set_option maxHeartbeats 4000000 in
theorem around_any (ten gn cm : Nat) (w : World) (ht : ten < 4294967296) (hg : gn < 65536) (hc : cm < 18446744073709551616) :
    Calls Try.prog 74 #[.int .u32 (ten : Int), .int .u16 (gn : Int), .int .u64 (cm : Int)] w fun e w' => ∃ v u, e = .returned (.tuple #[v, u]) ∧ OwB w' w.heap.size v (nonH ten cm) ∧ OwB w' w.heap.size u (besH ten gn) ∧ Below w.heap.size w w' := by
  have zt := wide_u64 ten (by omega)
  have zg := wide_u64 gn (by omega)
  have HT := Lib.hid (hnum_any ten 4 w (by omega) (by decide) (by decide) ht)
  have HC : Hid (∀ W, Calls Try.prog 123 #[.int .u64 (cm : Int), .int .i64 8] W fun e w' => e = .returned (.slice (some ⟨W.heap.size, 0, none⟩) 8 8) ∧ Bk w' W.heap.size 5 (digB cm 8) ∧ Below W.heap.size W w') := Lib.hid fun W => hnum_any cm 8 W hc (by decide) (by decide) hc
  have HG : Hid (∀ W, Calls Try.prog 123 #[.int .u64 (gn : Int), .int .i64 2] W fun e w' => e = .returned (.slice (some ⟨W.heap.size, 0, none⟩) 2 2) ∧ Bk w' W.heap.size 5 (digB gn 2) ∧ Below W.heap.size W w') := Lib.hid fun W => hnum_any gn 2 W (by omega) (by decide) (by decide) hg
  have HZ := Lib.hid zg
  clear ht hg hc zg
  go_enter Try.func74, Try.ntmps74
  go_wp2_with fail
  refine HT.out.mono ?_
  rintro e w1 ⟨rfl, hv, hb⟩
  have V1 : Hid (IsB w1 (some ⟨w.heap.size, 0, none⟩) 4 4 (digB ten 4)) := Lib.hid (isB_whole hv (digB_byt _ _) (digB_len _ _) (by decide))
  have B1 := Lib.hid hb
  clear hv hb HT
  go_wp2_with fail
  refine wp_wide3 [⟨12, IsR (.slice (some ⟨w.heap.size, 0, none⟩) 4 4), [], false⟩, ⟨13, IsR (.slice (some ⟨w.heap.size, 0, none⟩) 4 4), [0], false⟩, ⟨14, IsR (.int .u64 (cm : Int)), [], false⟩, ⟨15, OwR w1.heap.size (digB cm 8), [2], false⟩, ⟨16, OwR w1.heap.size (digB ten 4 ++ digB cm 8), [1, 3], false⟩, ⟨17, IsR (.slice (some ⟨w.heap.size, 0, none⟩) 4 4), [], false⟩, ⟨18, IsR (.slice (some ⟨w.heap.size, 0, none⟩) 4 4), [5], false⟩, ⟨19, IsR (.int .u16 (gn : Int)), [], false⟩, ⟨20, IsR (.int .u64 (gn : Int)), [7], false⟩, ⟨21, OwR w1.heap.size (digB gn 2), [8], false⟩, ⟨22, OwR w1.heap.size (digB ten 4 ++ digB gn 2), [6, 9], false⟩, ⟨6, OwR w1.heap.size (digB ten 4 ++ digB cm 8), [4], false⟩] (by kernel_rfl) (by kernel_rfl) rfl rfl rfl ⟨?_, ?_, ?_, ?_, ?_, ?_, ?_, ?_, ?_, ?_, ?_, ?_, trivial⟩ ?_
  · refine ⟨rfl, IsR.mono _, fun a W hA hb hd => takes_plain rfl (yields_value _ ?_ rfl)⟩
    have h8 : a.tmps[8]?.getD undef = .slice (some ⟨w.heap.size, 0, none⟩) 4 4 := (eval_get a 8).trans ((hA.eval (by simp)).trans rfl)
    go_simp
  · refine ⟨rfl, IsR.mono _, fun a W hA hb hd => takes_plain rfl (yields_value _ ?_ rfl)⟩
    have h12 : a.tmps[12]?.getD undef = .slice (some ⟨w.heap.size, 0, none⟩) 4 4 := (eval_get a 12).trans (hd 0 (by simp) _ rfl)
    have hsl := sl_clip W (some ⟨w.heap.size, 0, none⟩) 4 4 4 (by decide)
    go_simp
  · refine ⟨rfl, IsR.mono _, fun a W hA hb hd => takes_plain rfl (yields_value _ ?_ rfl)⟩
    have h2 : a.tmps[2]?.getD undef = .int .u64 (cm : Int) := (eval_get a 2).trans ((hA.eval (by simp)).trans rfl)
    go_simp
  · refine ⟨rfl, OwR.mono _ _, fun a W hA hb hd => takes_plain rfl ?_⟩
    have h14 : a.tmps[14]?.getD undef = .int .u64 (cm : Int) := (eval_get a 14).trans (hd 2 (by simp) _ rfl)
    refine yields_call 123 #[.int .u64 (cm : Int), .int .i64 8] (by go_simp) ((HC.out W).mono ?_)
    rintro e W1 ⟨rfl, hv1, hb1⟩
    exact ⟨_, rfl, bk_own hv1 hb.size (by decide), hb1⟩
  · refine ⟨rfl, OwR.mono _ _, fun a W hA hb hd => takes_plain rfl ?_⟩
    have hs : a.eval (.tmp 13) = .slice (some ⟨w.heap.size, 0, none⟩) 4 4 := hd 1 (by simp) _ rfl
    have hx : OwB W w1.heap.size (a.eval (.tmp 15)) (digB cm 8) := hd 3 (by simp) _ rfl
    obtain ⟨g, c, he, hx2⟩ := hx.cut (n := 8) (digB_len _ _) (by decide)
    exact yields_appGrow (.tmp 13) (.tmp 15) rfl (V1.out.ab hb) hs hx2 he (by decide) (by decide) fun v1 W1 h1 h2 => h1.lower hb.size
  · refine ⟨rfl, IsR.mono _, fun a W hA hb hd => takes_plain rfl (yields_value _ ?_ rfl)⟩
    have h8 : a.tmps[8]?.getD undef = .slice (some ⟨w.heap.size, 0, none⟩) 4 4 := (eval_get a 8).trans ((hA.eval (by simp)).trans rfl)
    go_simp
  · refine ⟨rfl, IsR.mono _, fun a W hA hb hd => takes_plain rfl (yields_value _ ?_ rfl)⟩
    have h17 : a.tmps[17]?.getD undef = .slice (some ⟨w.heap.size, 0, none⟩) 4 4 := (eval_get a 17).trans (hd 5 (by simp) _ rfl)
    have hsl := sl_clip W (some ⟨w.heap.size, 0, none⟩) 4 4 4 (by decide)
    go_simp
  · refine ⟨rfl, IsR.mono _, fun a W hA hb hd => takes_plain rfl (yields_value _ ?_ rfl)⟩
    have h1 : a.tmps[1]?.getD undef = .int .u16 (gn : Int) := (eval_get a 1).trans ((hA.eval (by simp)).trans rfl)
    go_simp
  · refine ⟨rfl, IsR.mono _, fun a W hA hb hd => takes_plain rfl (yields_value _ ?_ rfl)⟩
    have h19 : a.tmps[19]?.getD undef = .int .u16 (gn : Int) := (eval_get a 19).trans (hd 7 (by simp) _ rfl)
    have hz := HZ.out
    go_simp
  · refine ⟨rfl, OwR.mono _ _, fun a W hA hb hd => takes_plain rfl ?_⟩
    have h20 : a.tmps[20]?.getD undef = .int .u64 (gn : Int) := (eval_get a 20).trans (hd 8 (by simp) _ rfl)
    refine yields_call 123 #[.int .u64 (gn : Int), .int .i64 2] (by go_simp) ((HG.out W).mono ?_)
    rintro e W1 ⟨rfl, hv1, hb1⟩
    exact ⟨_, rfl, bk_own hv1 hb.size (by decide), hb1⟩
  · refine ⟨rfl, OwR.mono _ _, fun a W hA hb hd => takes_plain rfl ?_⟩
    have hs : a.eval (.tmp 18) = .slice (some ⟨w.heap.size, 0, none⟩) 4 4 := hd 6 (by simp) _ rfl
    have hx : OwB W w1.heap.size (a.eval (.tmp 21)) (digB gn 2) := hd 9 (by simp) _ rfl
    obtain ⟨g, c, he, hx2⟩ := hx.cut (n := 2) (digB_len _ _) (by decide)
    exact yields_appGrow (.tmp 18) (.tmp 21) rfl (V1.out.ab hb) hs hx2 he (by decide) (by decide) fun v1 W1 h1 h2 => h1.lower hb.size
  · refine ⟨rfl, OwR.mono _ _, fun a W hA hb hd => takes_plain rfl ?_⟩
    have ho : OwB W w1.heap.size (a.eval (.tmp 16)) (digB ten 4 ++ digB cm 8) := hd 4 (by simp) _ rfl
    exact yields_value (a.eval (.tmp 16)) (exec_assign (.tmp 16) rfl W) ho
  intro vs w9 hR hF hb
  have N9 : Hid (OwB w9 w1.heap.size (vs 6) (nonH ten cm)) := Lib.hid (hR 11 _ rfl)
  have S9 : Hid (OwB w9 w1.heap.size (vs 22) (besH ten gn)) := Lib.hid (hR 10 _ rfl)
  have B9 := Lib.hid (below_tr B1.out hb B1.out.size)
  clear hR hF hb
  simp only [List.map_cons, List.map_nil, List.foldl_cons, List.foldl_nil, List.length_cons, List.length_nil, List.drop_succ_cons, List.drop_zero, Act.put, List.setIfInBounds_toArray, List.set_cons_zero, List.set_cons_succ]
  generalize vs 12 = q12 at *
  generalize vs 13 = q13 at *
  generalize vs 14 = q14 at *
  generalize vs 15 = q15 at *
  generalize vs 16 = q16 at *
  generalize vs 17 = q17 at *
  generalize vs 18 = q18 at *
  generalize vs 19 = q19 at *
  generalize vs 20 = q20 at *
  generalize vs 21 = q21 at *
  generalize vs 22 = q22 at *
  generalize vs 6 = q6 at *
  go_wp2_with fail
  go_ret2
  exact ⟨_, _, rfl, N9.out.lower B1.out.size, S9.out.lower B1.out.size, B9.out⟩

/-- bytes that came out, in a block of whatever type -/
def OutI (w : World) (l : List Nat) (err : Nat) (e : Ending) (w' : World) : Prop :=
  ∃ A c, e = .returned (.tuple #[.slice A l.length c, .int .i64 (err : Int)]) ∧ IsB w' A l.length c l ∧ Below w.heap.size w w'
def markS (key secret : List Nat) : List Nat × Nat := if key.length = 32 ∧ secret.length = 16 then (encA (drawnA key 3 0) secret, 0) else ([], 2)
theorem run_toArray (W : World) (X : Addr) (c : Nat) : (Instr.arrayAt 26 (.slice (some X) 16 c)).run Try.prog W = .ok (.pointer (some X)) W := by
  unfold Instr.arrayAt
  rw [Sem.run_bind, run_underlying Try.underlying26 W]
  rfl
theorem isB_cells {w : World} {x : Addr} {n c : Nat} {l : List Nat} (h : IsB w (some x) n c l) : ∀ j v, (l.map (fun n : Nat => Value.int .u8 (n : Int)))[j]? = some v → w.cell? (x.add j) = some v := fun j v hj => cell_isB h j v hj
set_option maxRecDepth 100000 in
set_option maxHeartbeats 4000000 in
theorem mark_ok (A sA : Option Addr) (c sc : Nat) (key secret : List Nat) (w : World) (ik : IsB w A 32 c key) (is : IsB w sA 16 sc secret) :
    Calls Try.prog 20 #[.slice A 32 c, .slice sA 16 sc] w (OutI w (encA (drawnA key 3 0) secret) 0) := by
  have hd := drawn_any A 32 c 3 0 key w ik (by decide) (by decide)
  rw [show drawnS key 3 0 = (drawnA key 3 0, 0) from if_pos ik.len] at hd
  have dl := drawnA_len key 3 0
  have db := drawnA_byt (key := key) (.inr ik.len) ik.2 (p := 3) (gn := 0) (by decide) (by decide)
  generalize drawnA key 3 0 = D at *
  have hK : KeyOk D := .inr dl
  have ls := is.len
  have hnew := fun W B d h => new_any (D.length / 4) 32 D (some B) d W hK.four (by rw [dl]) h
  have hen := fun b g W hC => encC_any b g (D.length / 4) D secret W hK.four hK.len db is.2 ls hC
  have le := encA_len D secret
  have be := encA_byt hK db is.2
  rw [show encK (wordsAll (D.length / 4) D) (D.length / 4 + 6) secret = encA D secret from rfl] at hen
  generalize encA D secret = en at *
  obtain ⟨X, rfl, -, -⟩ := is.cell (by decide)
  have HD := Lib.hid hd
  have HN := Lib.hid hnew
  have HE := Lib.hid hen
  have LE := Lib.hid le
  have BE := Lib.hid be
  have IS := Lib.hid is
  have DL := Lib.hid dl
  have LS := Lib.hid ls
  clear hd hnew hen le be is dl db hK ls ik
  go_enter Try.func20, Try.ntmps20
  go_wp2_with fail
  refine HD.out.mono ?_
  rintro e w1 ⟨v, rfl, hv, hb⟩
  obtain ⟨g1, c1, rfl, h1⟩ := hv.cut DL.out (by decide)
  have K1 := Lib.hid h1
  have S1 := Lib.hid (IS.out.ab hb)
  have B1 := Lib.hid hb
  clear hv hb h1 HD IS
  go_wp2_with fail
  refine (HN.out _ _ _ K1.out).mono ?_
  rintro e w2 ⟨b, g, rfl, hbg, hwb, hC, hb2⟩
  have C2 := Lib.hid hC
  have S2 := Lib.hid (S1.out.ab hb2)
  have B2 := Lib.hid (below_tr B1.out hb2 B1.out.size)
  clear hC hbg hwb hb2 S1 K1 B1 HN
  have hta := fun W => run_toArray W X sc
  go_wp2_with (refine wpList_loadAny rfl 26 (.tmp 33) rfl X rfl (secret.map (fun n : Nat => Value.int .u8 (n : Int))) _ (isB_cells S2.out) Try.underlying26 rfl (by rw [List.length_map, LS.out]; exact sz16) ?_
               change wpList _ _ _ _ (Act.put _ _ (.agg (bts secret))) _)
  refine (HE.out b g w2 C2.out).mono ?_
  rintro e w3 ⟨rfl, hb3⟩
  have B3 := Lib.hid (below_tr B2.out hb3 B2.out.size)
  clear hb3 C2 S2 HE
  go_wp2_with (refine wpList_storeN (l := z16) (o := ⟨none, .store _ (.tmp 9) (.tmp 36), _, _, _, _⟩) rfl 26 (.tmp 9) (.tmp 36) rfl w3.heap.size rfl en rfl (t := 26) ?_ (by rw [LE.out]; exact sz16) (by rw [LE.out]; rfl) ?_
               · exact Bk.newAt _ z16 rfl
               intro w4 hw4
               have E4 : Hid (IsB w4 (some ⟨w3.heap.size, 0, none⟩) 16 16 en) := Lib.hid (isB_whole (by rw [hw4]; exact (show Bk (w3.alloc (.cells (bts z16) 26)) w3.heap.size 26 z16 from Bk.newAt _ z16 rfl).row _) BE.out LE.out (by decide))
               have hb4 : Below w3.heap.size w3 w4 := by rw [hw4]; exact Below.row ((Below.refl _ _).alloc (Nat.le_refl _) _) (Nat.le_refl _) _
               have B4 := Lib.hid (below_tr B3.out hb4 B3.out.size)
               clear hw4 hb4)
  go_ret2
  exact ⟨some ⟨w3.heap.size, 0, none⟩, 16, by rw [LE.out]; rfl, by rw [LE.out]; exact E4.out, B4.out⟩
set_option maxRecDepth 100000 in
set_option maxHeartbeats 4000000 in
theorem mark_any (A sA : Option Addr) (n c sn sc : Nat) (key secret : List Nat) (w : World) (ik : IsB w A n c key) (is : IsB w sA sn sc secret) :
    Calls Try.prog 20 #[.slice A n c, .slice sA sn sc] w (OutI w (markS key secret).1 (markS key secret).2) := by
  have lk := ik.len
  have ls := is.len
  unfold markS
  by_cases h : key.length = 32 ∧ secret.length = 16
  · rw [if_pos h]
    obtain rfl : n = 32 := by omega
    obtain rfl : sn = 16 := by omega
    exact mark_ok A sA c sc key secret w ik is
  · rw [if_neg h]
    have hd := drawn_any A n c 3 0 key w ik (by decide) (by decide)
    unfold drawnS at hd
    by_cases h32 : key.length = 32
    · rw [if_pos h32] at hd
      have h16 : ((sn : Int) != 16) = true := by simp; omega
      have HD := Lib.hid hd
      clear hd
      go_enter Try.func20, Try.ntmps20
      go_wp2_with fail
      refine HD.out.mono ?_
      rintro e w1 ⟨v, rfl, hv, hb⟩
      have B1 := Lib.hid hb
      clear hv hb
      go_wp2_with fail
      go_ret2
      exact ⟨none, 0, rfl, isB_nil _, B1.out⟩
    · rw [if_neg h32] at hd
      have HD := Lib.hid hd
      clear hd
      go_enter Try.func20, Try.ntmps20
      go_wp2_with fail
      refine HD.out.mono ?_
      rintro e w1 ⟨v, rfl, hv, hb⟩
      have B1 := Lib.hid hb
      clear hv hb
      go_wp2_with fail
      go_ret2
      exact ⟨none, 0, rfl, isB_nil _, B1.out⟩

theorem szH3 : (Try.prog.info? 32).map (·.size) = some 3 := by kernel_rfl
def HdB (w : World) (B : Nat) (cs : Array Value) : Prop := w.heap[B]? = some (.cells cs 32 (0, 0))
section
variable {w w' : World} {B : Nat} {cs : Array Value}
theorem HdB.lt (k : HdB w B cs) : B < w.heap.size := lt_of_block k
theorem HdB.ab (k : HdB w B cs) (hb : Below w.heap.size w w') : HdB w' B cs := (hb.block B k.lt).trans k
theorem HdB.row (k : HdB w B cs) (cs' : Array Value) : HdB (w.setRow B cs') B cs' := setRow_heap w B _ _ _ _ k
theorem HdB.cells {c0 c1 c2 : Value} (k : HdB w B #[c0, c1, c2]) : w.cell? ⟨B, 0, none⟩ = some c0 ∧ w.cell? ⟨B, 1, none⟩ = some c1 ∧ w.cell? ⟨B, 2, none⟩ = some c2 := by
  refine ⟨?_, ?_, ?_⟩ <;> (rw [cell_of_row w B _ _ _ (0, 0) k]; rfl)
end
/-- a store of a wrapped key, the new world under a name of its own -/
theorem wpList_store3 {ops : Array Oper} {rest : List Oper} {o : Oper} {a : Act} {w : World} {Q : Exit → Act → World → Prop} (hgd : o.guard = none) (x y : Operand) (ho : o.op = .store 32 x y)
    (g : Nat) (hx : a.eval x = .pointer (some ⟨g, 0, none⟩)) (cs' : Array Value) (hy : a.eval y = .agg cs') (h6 : cs'.size = 3) (h1 : cs'.all (·.oneCell') = true) {cs : Array Value} (hg : HdB w g cs) (h0 : cs.size = 3)
    (h : ∀ w2, w2 = w.setRow g cs' → wpList Try.prog ops Q rest (a.put o.dst undef) w2) : wpList Try.prog ops Q (o :: rest) a w := by
  have hrun := run_storeVar_row (P := Try.prog) w g 32 32 cs cs' hg (by rw [h6]; exact szH3) (by rw [h0, h6]) h1
  refine wpList_plain hgd fun K hK => ?_
  have hK := hK _ _ (h _ rfl)
  unfold Oper.wp execOp
  simp only [ho, hx, hy, Instr.storeAt, Instr.sureAddr, Sem.run_bind, Sem.run_pure, Result.andThen_ok, hrun]
  exact hK
def wrapA (root : List Nat) (ten gn cm : Nat) (key : List Nat) : List Nat := sealA (drawnA root 2 gn) (nonH ten cm) (besH ten gn) key
def unwrapA (root : List Nat) (ten gn cm : Nat) (s : List Nat) : List Nat × Nat := openS (drawnA root 2 gn) (nonH ten cm) (besH ten gn) s
theorem gokH {root : List Nat} (ten gn cm : Nat) : GOk (drawnA root 2 gn) (nonH ten cm) := ⟨.inr (drawnA_len _ _ _), nonH_len _ _⟩
set_option maxRecDepth 100000 in
set_option maxHeartbeats 4000000 in
theorem wrap_ok (A kA : Option Addr) (c kc ten gn cm : Nat) (root key : List Nat) (w : World) (ir : IsB w A 32 c root) (ik : IsB w kA 16 kc key) (ht : ten < 4294967296) (hg : gn < 65536) (hc : cm < 18446744073709551616) :
    Calls Try.prog 19 #[.slice A 32 c, .int .u32 (ten : Int), .int .u16 (gn : Int), .int .u64 (cm : Int), .slice kA 16 kc] w fun e w' => ∃ v, e = .returned (.tuple #[.agg #[.int .u16 (gn : Int), .int .u64 (cm : Int), v], .int .i64 0]) ∧ OwB w' w.heap.size v (wrapA root ten gn cm key) ∧ Below w.heap.size w w' := by
  have R0 : Hid (HdB (w.alloc (.cells #[.int .u16 0, .int .u64 0, .slice none 0 0] 32)) w.heap.size #[.int .u16 0, .int .u64 0, .slice none 0 0]) := Lib.hid (heap_alloc_new w _)
  have B0 : Hid (Below w.heap.size w (w.alloc (.cells #[.int .u16 0, .int .u64 0, .slice none 0 0] 32))) := Lib.hid ((Below.refl _ _).alloc (Nat.le_refl _) _)
  have IR := Lib.hid (ir.alloc (.cells #[.int .u16 0, .int .u64 0, .slice none 0 0] 32))
  have IK := Lib.hid (ik.alloc (.cells #[.int .u16 0, .int .u64 0, .slice none 0 0] 32))
  have hd := fun W h => wrapper_any A 32 c gn root W h hg
  rw [show drawnS root 2 gn = (drawnA root 2 gn, 0) from if_pos ir.len] at hd
  have har := fun W => around_any ten gn cm W ht hg hc
  have hse := fun A1 c1 g2 c2 g3 c3 W h1 h2 h3 h4 => gseal_any A1 (some ⟨g2, 0, none⟩) (some ⟨g3, 0, none⟩) kA 32 c1 12 c2 6 c3 16 kc (drawnA root 2 gn) (nonH ten cm) (besH ten gn) key W h1 h2 h3 h4
  rw [show sealS (drawnA root 2 gn) (nonH ten cm) (besH ten gn) key = (sealA (drawnA root 2 gn) (nonH ten cm) (besH ten gn) key, 0) by unfold sealS; rw [if_pos (gokH ten gn cm), if_neg (by rw [besH_len, ik.len]; decide)]] at hse
  have dl := drawnA_len root 2 gn
  have wl : (sealA (drawnA root 2 gn) (nonH ten cm) (besH ten gn) key).length = 32 := by rw [sealA_len, ik.len]
  unfold wrapA
  have HNL := Lib.hid (nonH_len ten cm)
  have HBL := Lib.hid (besH_len ten gn)
  have HD := Lib.hid hd
  have HA := Lib.hid har
  have HS := Lib.hid hse
  have DL := Lib.hid dl
  have WL := Lib.hid wl
  clear hd har hse dl wl ir ik ht hg hc
  go_enter Try.func19, Try.ntmps19
  go_wp2_with fail
  refine (HD.out _ IR.out).mono ?_
  rintro e w1 ⟨v, rfl, hv, hb⟩
  obtain ⟨g1, c1, rfl, h1⟩ := hv.cut DL.out (by decide)
  have D1 := Lib.hid h1
  have K1 := Lib.hid (IK.out.ab hb)
  have R1 := Lib.hid (R0.out.ab hb)
  have B1 := Lib.hid (below_tr B0.out hb B0.out.size)
  clear hv hb h1 HD IK IR R0 B0
  go_wp2_with fail
  refine (HA.out w1).mono ?_
  rintro e w2 ⟨v, u, rfl, hv, hu, hb⟩
  obtain ⟨g2, c2, rfl, h2⟩ := hv.cut HNL.out (by decide)
  obtain ⟨g3, c3, rfl, h3⟩ := hu.cut HBL.out (by decide)
  have N2 := Lib.hid h2
  have A2 := Lib.hid h3
  have D2 := Lib.hid (D1.out.ab hb)
  have K2 := Lib.hid (K1.out.ab hb)
  have R2 := Lib.hid (R1.out.ab hb)
  have B2 := Lib.hid (below_tr B1.out hb B1.out.size)
  clear hv hu hb h2 h3 HA D1 K1 R1 B1
  go_wp2_with fail
  refine (HS.out _ _ _ _ _ _ w2 D2.out N2.out A2.out K2.out).mono ?_
  rintro e w3 ⟨v, rfl, hv, hb⟩
  obtain ⟨A3, c3, rfl, -⟩ := hv.shape
  rw [WL.out] at hv ⊢
  have P3 : Hid (ApartB (.slice A3 32 c3) w.heap.size) := Lib.hid fun b hb1 e => (by have := (hv.lt b hb1).1; have := R2.out.lt; omega)
  have V3 := Lib.hid (hv.lower B2.out.size)
  have R3 := Lib.hid (R2.out.ab hb)
  have B3 := Lib.hid (below_tr B2.out hb B2.out.size)
  clear hv hb N2 A2 D2 K2 R2 B2 HS
  go_wp2_with ((with_reducible refine wpList_store3 (o := ⟨none, .store _ (.tmp 10) (.tmp 53), _, _, _, _⟩) rfl (.tmp 10) (.tmp 53) ?_ w.heap.size ?_ #[.int .u16 (gn : Int), .int .u64 (cm : Int), .slice A3 32 c3] ?_ ?_ ?_ (cs := #[.int .u16 0, .int .u64 0, .slice none 0 0]) ?_ ?_ ?_)
               · rfl
               · rfl
               · rfl
               · rfl
               · (simp [Value.oneCell'])
               · exact R3.out
               · rfl
               intro w6 hw6
               have R6 : HdB w6 w.heap.size #[.int .u16 (gn : Int), .int .u64 (cm : Int), .slice A3 32 c3] := by rw [hw6]; exact R3.out.row _
               have B6 : Hid (Below w.heap.size w w6) := Lib.hid (by rw [hw6]; exact Below.row B3.out (Nat.le_refl _) _)
               have V6 : Hid (OwB w6 w.heap.size (.slice A3 32 c3) (sealA (drawnA root 2 gn) (nonH ten cm) (besH ten gn) key)) := Lib.hid (by rw [hw6]; exact V3.out.rowFar P3.out _)
               obtain ⟨p0, p1, p2⟩ := R6.cells
               clear hw6)
  exact bodyPost_ret (v := .tuple #[.agg #[.int .u16 (gn : Int), .int .u64 (cm : Int), .slice A3 32 c3], .int .i64 0]) (by simp [results, Try.results19, go_sem, p0, p1, p2]) rfl ⟨_, rfl, V6.out, B6.out⟩
set_option maxRecDepth 100000 in
set_option maxHeartbeats 4000000 in
theorem wrap_bad (A kA : Option Addr) (n c kn kc ten gn cm : Nat) (root : List Nat) (w : World) (ir : IsB w A n c root) (hg : gn < 65536) (h : ¬ (n = 32 ∧ kn = 16)) :
    Calls Try.prog 19 #[.slice A n c, .int .u32 (ten : Int), .int .u16 (gn : Int), .int .u64 (cm : Int), .slice kA kn kc] w fun e w' => e = .returned (.tuple #[.agg #[.int .u16 0, .int .u64 0, .slice none 0 0], .int .i64 2]) ∧ Below w.heap.size w w' := by
  have R0 : Hid (HdB (w.alloc (.cells #[.int .u16 0, .int .u64 0, .slice none 0 0] 32)) w.heap.size #[.int .u16 0, .int .u64 0, .slice none 0 0]) := Lib.hid (heap_alloc_new w _)
  have B0 : Hid (Below w.heap.size w (w.alloc (.cells #[.int .u16 0, .int .u64 0, .slice none 0 0] 32))) := Lib.hid ((Below.refl _ _).alloc (Nat.le_refl _) _)
  have IR := Lib.hid (ir.alloc (.cells #[.int .u16 0, .int .u64 0, .slice none 0 0] 32))
  have hd := fun W h => wrapper_any A n c gn root W h hg
  unfold drawnS at hd
  have lr := ir.len
  by_cases h32 : root.length = 32
  · rw [if_pos h32] at hd
    have h16 : ((kn : Int) != 16) = true := by simp; omega
    have HD := Lib.hid hd
    clear hd h
    go_enter Try.func19, Try.ntmps19
    go_wp2_with fail
    refine (HD.out _ IR.out).mono ?_
    rintro e w1 ⟨v, rfl, hv, hb⟩
    have R1 := Lib.hid (R0.out.ab hb)
    have B1 := Lib.hid (below_tr B0.out hb B0.out.size)
    clear hv hb
    go_wp2_with ((with_reducible refine wpList_store3 (o := ⟨none, .store _ (.tmp 10) (.tmp 30), _, _, _, _⟩) rfl (.tmp 10) (.tmp 30) ?_ w.heap.size ?_ #[.int .u16 0, .int .u64 0, .slice none 0 0] ?_ ?_ ?_ (cs := #[.int .u16 0, .int .u64 0, .slice none 0 0]) ?_ ?_ ?_)
                 · rfl
                 · rfl
                 · rfl
                 · rfl
                 · (simp [Value.oneCell'])
                 · exact R1.out
                 · rfl
                 intro w6 hw6
                 have R6 : HdB w6 w.heap.size #[.int .u16 0, .int .u64 0, .slice none 0 0] := by rw [hw6]; exact R1.out.row _
                 have B6 : Hid (Below w.heap.size w w6) := Lib.hid (by rw [hw6]; exact Below.row B1.out (Nat.le_refl _) _)
                 obtain ⟨p0, p1, p2⟩ := R6.cells
                 clear hw6)
    exact bodyPost_ret (v := .tuple #[.agg #[.int .u16 0, .int .u64 0, .slice none 0 0], .int .i64 2]) (by simp [results, Try.results19, go_sem, p0, p1, p2]) rfl ⟨rfl, B6.out⟩
  · rw [if_neg h32] at hd
    have HD := Lib.hid hd
    clear hd h
    go_enter Try.func19, Try.ntmps19
    go_wp2_with fail
    refine (HD.out _ IR.out).mono ?_
    rintro e w1 ⟨v, rfl, hv, hb⟩
    have R1 := Lib.hid (R0.out.ab hb)
    have B1 := Lib.hid (below_tr B0.out hb B0.out.size)
    clear hv hb
    go_wp2_with ((with_reducible refine wpList_store3 (o := ⟨none, .store _ (.tmp 10) (.tmp 30), _, _, _, _⟩) rfl (.tmp 10) (.tmp 30) ?_ w.heap.size ?_ #[.int .u16 0, .int .u64 0, .slice none 0 0] ?_ ?_ ?_ (cs := #[.int .u16 0, .int .u64 0, .slice none 0 0]) ?_ ?_ ?_)
                 · rfl
                 · rfl
                 · rfl
                 · rfl
                 · (simp [Value.oneCell'])
                 · exact R1.out
                 · rfl
                 intro w6 hw6
                 have R6 : HdB w6 w.heap.size #[.int .u16 0, .int .u64 0, .slice none 0 0] := by rw [hw6]; exact R1.out.row _
                 have B6 : Hid (Below w.heap.size w w6) := Lib.hid (by rw [hw6]; exact Below.row B1.out (Nat.le_refl _) _)
                 obtain ⟨p0, p1, p2⟩ := R6.cells
                 clear hw6)
    exact bodyPost_ret (v := .tuple #[.agg #[.int .u16 0, .int .u64 0, .slice none 0 0], .int .i64 2]) (by simp [results, Try.results19, go_sem, p0, p1, p2]) rfl ⟨rfl, B6.out⟩
set_option maxRecDepth 100000 in
set_option maxHeartbeats 4000000 in
theorem unwrap_any (A sA : Option Addr) (n c sn sc ten gn cm : Nat) (root s : List Nat) (w : World) (ir : IsB w A n c root) (is : IsB w sA sn sc s) (ht : ten < 4294967296) (hg : gn < 65536) (hc : cm < 18446744073709551616) :
    Calls Try.prog 78 #[.slice A n c, .int .u32 (ten : Int), .agg #[.int .u16 (gn : Int), .int .u64 (cm : Int), .slice sA sn sc]] w (OutB w (if n = 32 ∧ sn = 32 then unwrapA root ten gn cm s else ([], 2)).1 (if n = 32 ∧ sn = 32 then unwrapA root ten gn cm s else ([], 2)).2) := by
  have R0 : Hid (HdB (w.alloc (.cells #[.int .u16 (gn : Int), .int .u64 (cm : Int), .slice sA sn sc] 32)) w.heap.size #[.int .u16 (gn : Int), .int .u64 (cm : Int), .slice sA sn sc]) := Lib.hid (heap_alloc_new w _)
  have B0 : Hid (Below w.heap.size w (w.alloc (.cells #[.int .u16 (gn : Int), .int .u64 (cm : Int), .slice sA sn sc] 32))) := Lib.hid ((Below.refl _ _).alloc (Nat.le_refl _) _)
  have IR := Lib.hid (ir.alloc (.cells #[.int .u16 (gn : Int), .int .u64 (cm : Int), .slice sA sn sc] 32))
  have IS := Lib.hid (is.alloc (.cells #[.int .u16 (gn : Int), .int .u64 (cm : Int), .slice sA sn sc] 32))
  have hd := fun W h => wrapper_any A n c gn root W h hg
  unfold drawnS at hd
  have lr := ir.len
  obtain ⟨x0, x1, x2⟩ := R0.out.cells
  by_cases h : n = 32 ∧ sn = 32
  · rw [if_pos h]
    obtain ⟨rfl, rfl⟩ := h
    rw [if_pos lr] at hd
    have har := fun W => around_any ten gn cm W ht hg hc
    have hse := fun A1 c1 g2 c2 g3 c3 W h1 h2 h3 h4 => gopen_any A1 (some ⟨g2, 0, none⟩) (some ⟨g3, 0, none⟩) sA 32 c1 12 c2 6 c3 32 sc (drawnA root 2 gn) (nonH ten cm) (besH ten gn) s W h1 h2 h3 h4
    have dl := drawnA_len root 2 gn
    unfold unwrapA
    have HNL := Lib.hid (nonH_len ten cm)
    have HBL := Lib.hid (besH_len ten gn)
    generalize openS (drawnA root 2 gn) (nonH ten cm) (besH ten gn) s = OU at *
    obtain ⟨out, err⟩ := OU
    have HD := Lib.hid hd
    have HA := Lib.hid har
    have HS := Lib.hid hse
    have DL := Lib.hid dl
    clear hd har hse dl ir is ht hg hc lr
    go_enter Try.func78, Try.ntmps78
    go_wp2_with fail
    refine (HD.out _ IR.out).mono ?_
    rintro e w1 ⟨v, rfl, hv, hb⟩
    obtain ⟨g1, c1, rfl, h1⟩ := hv.cut DL.out (by decide)
    have D1 := Lib.hid h1
    have S1 := Lib.hid (IS.out.ab hb)
    have R1 := Lib.hid (R0.out.ab hb)
    have B1 := Lib.hid (below_tr B0.out hb B0.out.size)
    clear hv hb h1 HD IS IR R0 B0 x0 x1 x2
    obtain ⟨x0, x1, x2⟩ := R1.out.cells
    go_wp2_with fail
    refine (HA.out w1).mono ?_
    rintro e w2 ⟨v, u, rfl, hv, hu, hb⟩
    obtain ⟨g2, c2, rfl, h2⟩ := hv.cut HNL.out (by decide)
    obtain ⟨g3, c3, rfl, h3⟩ := hu.cut HBL.out (by decide)
    have N2 := Lib.hid h2
    have A2 := Lib.hid h3
    have D2 := Lib.hid (D1.out.ab hb)
    have S2 := Lib.hid (S1.out.ab hb)
    have R2 := Lib.hid (R1.out.ab hb)
    have B2 := Lib.hid (below_tr B1.out hb B1.out.size)
    clear hv hu hb h2 h3 HA D1 S1 R1 B1 x0 x1 x2
    obtain ⟨x0, x1, x2⟩ := R2.out.cells
    go_wp2_with fail
    refine (HS.out _ _ _ _ _ _ w2 D2.out N2.out A2.out S2.out).mono ?_
    rintro e w3 ⟨v, rfl, hv, hb⟩
    have V3 := Lib.hid (hv.lower B2.out.size)
    have B3 := Lib.hid (below_tr B2.out hb B2.out.size)
    clear hv hb N2 A2 D2 S2 R2 B2 HS x0 x1 x2
    go_wp2_with fail
    go_ret2
    exact ⟨_, rfl, V3.out, B3.out⟩
  · rw [if_neg h]
    by_cases h32 : root.length = 32
    · rw [if_pos h32] at hd
      have h16 : ((sn : Int) != 32) = true := by simp; omega
      have HD := Lib.hid hd
      clear hd h
      go_enter Try.func78, Try.ntmps78
      go_wp2_with fail
      refine (HD.out _ IR.out).mono ?_
      rintro e w1 ⟨v, rfl, hv, hb⟩
      have R1 := Lib.hid (R0.out.ab hb)
      have B1 := Lib.hid (below_tr B0.out hb B0.out.size)
      clear hv hb x0 x1 x2
      obtain ⟨x0, x1, x2⟩ := R1.out.cells
      go_wp2_with fail
      go_ret2
      exact OutB.refused 2 B1.out
    · rw [if_neg h32] at hd
      have HD := Lib.hid hd
      clear hd h
      go_enter Try.func78, Try.ntmps78
      go_wp2_with fail
      refine (HD.out _ IR.out).mono ?_
      rintro e w1 ⟨v, rfl, hv, hb⟩
      have R1 := Lib.hid (R0.out.ab hb)
      have B1 := Lib.hid (below_tr B0.out hb B0.out.size)
      clear hv hb x0 x1 x2
      obtain ⟨x0, x1, x2⟩ := R1.out.cells
      go_wp2_with fail
      go_ret2
      exact OutB.refused 2 B1.out
end Go.Proofs.Ytgnooakjkpkgiaa

namespace Go.Proofs.Ytgnooakjkpkgiaa
open Go.RowKit
set_option linter.unusedVariables false

theorem digB_at (m : Nat) : ∀ n k, k < n → at' (digB m n) k = m / 256 ^ (n - 1 - k) % 256
  | 0, k, h => by omega
  | n + 1, 0, h => by rw [digB_succ]; rfl
  | n + 1, k + 1, h => by
    rw [digB_succ]
    show at' (digB m n) k = _
    rw [digB_at m n k (by omega)]
    congr 2
    congr 1
    omega
theorem pow_256 (i : Nat) : (256 : Nat) ^ i = 2 ^ (8 * i) := by rw [Nat.pow_mul]
/-- a fresh block of noughts -/
def NewB (w0 : World) (v : Value) (W : World) : Prop := ∃ g, v = .pointer (some ⟨g, 0, none⟩) ∧ Bk W g 26 z16 ∧ w0.heap.size ≤ g
theorem NewB.mono (w0 : World) : Mono (NewB w0) := fun v W W' ⟨g, h1, h2, h3⟩ hb => ⟨g, h1, h2.ab hb, h3⟩
end Go.Proofs.Ytgnooakjkpkgiaa

namespace Go.Proofs.Ytgnooakjkpkgiaa
open Go.RowKit
set_option linter.unusedVariables false

end Go.Proofs.Ytgnooakjkpkgiaa

namespace Go.Proofs.Ytgnooakjkpkgiaa
open Go.RowKit
set_option linter.unusedVariables false

theorem byt_map_inj {a b : List Nat} (ha : Byt a) (hb : Byt b) (h : a.map UInt8.ofNat = b.map UInt8.ofNat) : a = b := (strOf_inj ha hb).1 (by unfold strOf; rw [h])
theorem strOf_toList (l : List Nat) : (strOf l).toList = l.map UInt8.ofNat := ByteArray.toList_mk _
theorem str_eq {x y : List Nat} (hx : Byt x) (hy : Byt y) : ((strOf x).toList == (strOf y).toList) = decide (x = y) := by
  rw [strOf_toList, strOf_toList]
  by_cases h : x = y
  · rw [decide_eq_true h, h]; simp
  · rw [decide_eq_false h, beq_eq_false_iff_ne]
    exact fun e => h (byt_map_inj hx hy e)
theorem isB_marked {w : World} {g n : Nat} {t : TypeId} {fr : Nat × Nat} {l : List Nat} (h : w.heap[g]? = some (.cells (bts l) t fr)) (hb : Byt l) (hl : l.length = n) (hn : n ≤ 9223372036854775807) : IsB w (some ⟨g, 0, none⟩) n n l := by
  refine ⟨⟨by simp [hl], Nat.le_refl _, hn, byt_wf hb, .inr ⟨⟨g, 0, none⟩, rfl, fun _ => lt_of_block h, fun i hi => ?_⟩⟩, hb⟩
  have hc : w.cell? ⟨g, i, none⟩ = (bts l)[i]? := Joins.cell_of_block h i
  have e : (⟨g, 0, none⟩ : Addr).add i = ⟨g, i, none⟩ := by rw [Addr.add_mid, Nat.zero_add]
  rw [e, hc]
  simp [bts, List.getD_eq_getElem?_getD, List.getElem?_eq_getElem (show i < l.length by omega)]
theorem OwB.ty {w : World} {B g n c : Nat} {l : List Nat} (h : OwB w B (.slice (some ⟨g, 0, none⟩) n c) l) (hl : 0 < l.length) : ∃ cs, w.heap[g]? = some (.cells cs 5 (0, 0)) := by
  rcases h.own.2 with ⟨h1, h0⟩ | ⟨g', cap, cur, e, hb', hgg, -⟩
  · cases h1
  · simp only [Value.slice.injEq, Option.some.injEq, Addr.mk.injEq, and_true] at e
    rw [e.1]
    exact ⟨_, hgg⟩
/-- bytes with a mark behind them -/
structure LentB (w : World) (g n c : Nat) (l : List Nat) : Prop where
  isB : IsB w (some ⟨g, 0, none⟩) n c l
  mark : w.cell? ⟨g, n, none⟩ = some (.int .u8 77)
  row : ∃ cs, w.heap[g]? = some (.cells cs 5 (0, 0))
  cap : n < c
theorem LentB.lt {w : World} {g n c : Nat} {l : List Nat} (h : LentB w g n c l) : g < w.heap.size := by
  obtain ⟨cs, h⟩ := h.row
  exact lt_of_block h
theorem LentB.ab {w w' : World} {g n c : Nat} {l : List Nat} (h : LentB w g n c l) (hb : Below w.heap.size w w') : LentB w' g n c l := ⟨h.isB.ab hb, (hb.cell (p := ⟨g, n, none⟩) h.lt).trans h.mark, (by obtain ⟨cs, e⟩ := h.row; exact ⟨cs, (hb.block g h.lt).trans e⟩), h.cap⟩
theorem LentB.rowFar {w : World} {g n c : Nat} {l : List Nat} (h : LentB w g n c l) {q : Nat} (hq : g ≠ q) (cs : Array Value) : LentB (w.setRow q cs) g n c l :=
  ⟨isB_rowFar h.isB (fun x e => by injection e with e; rw [← e]; exact hq) cs, (World.cell?_of_block (a := ⟨g, n, none⟩) (setRow_other w q g cs hq)).trans h.mark, (by obtain ⟨c0, e⟩ := h.row; exact ⟨c0, (setRow_other w q g cs hq).trans e⟩), h.cap⟩
/-- two wrapped keys, in memory -/
theorem two_heldB (w : World) (x y : Array Value) : HdB ((w.alloc (.cells x 32)).alloc (.cells y 32)) w.heap.size x ∧ HdB ((w.alloc (.cells x 32)).alloc (.cells y 32)) (w.heap.size + 1) y ∧ Below w.heap.size w ((w.alloc (.cells x 32)).alloc (.cells y 32)) := by
  refine ⟨HdB.ab (w := w.alloc (.cells x 32)) (heap_alloc_new w _) ((Below.refl _ _).alloc (Nat.le_refl _) _), ?_, ((Below.refl _ _).alloc (Nat.le_refl _) _).alloc (Nat.le_of_lt (by simp)) _⟩
  have := heap_alloc_new (w.alloc (.cells x 32)) (.cells y 32)
  rw [show (w.alloc (.cells x 32)).heap.size = w.heap.size + 1 by simp] at this
  exact this
def k0H : List Nat := [48, 49, 50, 51, 52, 53, 54, 55, 56, 57, 97, 98, 99, 100, 101, 102]
theorem k0H_byt : Byt k0H := by unfold Byt k0H; decide
theorem k0H_str : ((strOf k0H).toList == [48, 49, 50, 51, 52, 53, 54, 55, 56, 57, 97, 98, 99, 100, 101, 102]) = true := by decide +kernel
theorem wrap_len (root : List Nat) (ten gn cm : Nat) (key : List Nat) : (wrapA root ten gn cm key).length = key.length + 16 := sealA_len _ _ _ _
theorem unwrap_wrap {root : List Nat} (ten gn cm : Nat) {key : List Nat} (h : key.length = 16) : unwrapA root ten gn cm (wrapA root ten gn cm key) = (key, 0) := by
  unfold unwrapA wrapA
  exact open_seal (gokH ten gn cm) (by rw [besH_len]; decide) (by omega)
set_option maxRecDepth 100000 in
set_option maxHeartbeats 4000000 in
theorem known22_any (w : World) : Calls Try.prog 21 #[] w fun e w' => e = .returned (.bool true) ∧ Below w.heap.size w w' := by
  have hmk : (Instr.makeSlice 27 (.int .i64 32) (.int .i64 32)).run Try.prog w = .ok (.slice (some ⟨w.heap.size, 0, none⟩) 32 32) (w.alloc (.cells (bts (zeros 32)) 5)) := make_u8 32 32 (by decide) (by decide) w
  have hcv : (convert 27 27 (.slice (some ⟨w.heap.size + 1, 0, none⟩) 16 16)).run Try.prog ((w.alloc (.cells (bts (zeros 32)) 5)).alloc (.cells #[Value.int .u8 48, Value.int .u8 49, Value.int .u8 50, Value.int .u8 51, Value.int .u8 52, Value.int .u8 53, Value.int .u8 54, Value.int .u8 55, Value.int .u8 56, Value.int .u8 57, Value.int .u8 97, Value.int .u8 98, Value.int .u8 99, Value.int .u8 100, Value.int .u8 101, Value.int .u8 102] 5)) = .ok (.slice (some ⟨w.heap.size + 1, 0, none⟩) 16 16) ((w.alloc (.cells (bts (zeros 32)) 5)).alloc (.cells #[Value.int .u8 48, Value.int .u8 49, Value.int .u8 50, Value.int .u8 51, Value.int .u8 52, Value.int .u8 53, Value.int .u8 54, Value.int .u8 55, Value.int .u8 56, Value.int .u8 57, Value.int .u8 97, Value.int .u8 98, Value.int .u8 99, Value.int .u8 100, Value.int .u8 101, Value.int .u8 102] 5 (16, 17))) :=
    Joins.run_convert_bytes_const_at (w.alloc (.cells (bts (zeros 32)) 5)) 27 5 #[Value.int .u8 48, Value.int .u8 49, Value.int .u8 50, Value.int .u8 51, Value.int .u8 52, Value.int .u8 53, Value.int .u8 54, Value.int .u8 55, Value.int .u8 56, Value.int .u8 57, Value.int .u8 97, Value.int .u8 98, Value.int .u8 99, Value.int .u8 100, Value.int .u8 101, Value.int .u8 102] 16 16 (w.heap.size + 1) (by simp) Try.underlying27 Try.underlying5
  have z0 : IsB (w.alloc (.cells (bts (zeros 32)) 5)) (some ⟨w.heap.size, 0, none⟩) 32 32 (zeros 32) := isB_whole (Bk.newAt _ (zeros 32) rfl) (byt_zeros 32) (zeros_len 32) (by decide)
  have Z0 : Hid (IsB ((w.alloc (.cells (bts (zeros 32)) 5)).alloc (.cells #[Value.int .u8 48, Value.int .u8 49, Value.int .u8 50, Value.int .u8 51, Value.int .u8 52, Value.int .u8 53, Value.int .u8 54, Value.int .u8 55, Value.int .u8 56, Value.int .u8 57, Value.int .u8 97, Value.int .u8 98, Value.int .u8 99, Value.int .u8 100, Value.int .u8 101, Value.int .u8 102] 5 (16, 17))) (some ⟨w.heap.size, 0, none⟩) 32 32 (zeros 32)) := Lib.hid (z0.alloc _)
  have K0 : Hid (IsB ((w.alloc (.cells (bts (zeros 32)) 5)).alloc (.cells #[Value.int .u8 48, Value.int .u8 49, Value.int .u8 50, Value.int .u8 51, Value.int .u8 52, Value.int .u8 53, Value.int .u8 54, Value.int .u8 55, Value.int .u8 56, Value.int .u8 57, Value.int .u8 97, Value.int .u8 98, Value.int .u8 99, Value.int .u8 100, Value.int .u8 101, Value.int .u8 102] 5 (16, 17))) (some ⟨w.heap.size + 1, 0, none⟩) 16 16 k0H) := Lib.hid (isB_marked (t := 5) (fr := (16, 17)) (by
    have := heap_alloc_new (w.alloc (.cells (bts (zeros 32)) 5)) (.cells #[Value.int .u8 48, Value.int .u8 49, Value.int .u8 50, Value.int .u8 51, Value.int .u8 52, Value.int .u8 53, Value.int .u8 54, Value.int .u8 55, Value.int .u8 56, Value.int .u8 57, Value.int .u8 97, Value.int .u8 98, Value.int .u8 99, Value.int .u8 100, Value.int .u8 101, Value.int .u8 102] 5 (16, 17))
    rw [show (w.alloc (.cells (bts (zeros 32)) 5)).heap.size = w.heap.size + 1 by simp] at this
    exact this) k0H_byt rfl (by decide))
  have B0 : Hid (Below w.heap.size w ((w.alloc (.cells (bts (zeros 32)) 5)).alloc (.cells #[Value.int .u8 48, Value.int .u8 49, Value.int .u8 50, Value.int .u8 51, Value.int .u8 52, Value.int .u8 53, Value.int .u8 54, Value.int .u8 55, Value.int .u8 56, Value.int .u8 57, Value.int .u8 97, Value.int .u8 98, Value.int .u8 99, Value.int .u8 100, Value.int .u8 101, Value.int .u8 102] 5 (16, 17)))) := Lib.hid (((Below.refl _ _).alloc (Nat.le_refl _) _).alloc (Nat.le_of_lt (by simp)) _)
  have hwr := fun W h1 h2 => wrap_ok (some ⟨w.heap.size, 0, none⟩) (some ⟨w.heap.size + 1, 0, none⟩) 32 16 5 2 9 (zeros 32) k0H W h1 h2 (by decide) (by decide) (by decide)
  have hun := fun A c W h1 h2 => unwrap_any (some ⟨w.heap.size, 0, none⟩) A 32 32 32 c 5 2 9 (zeros 32) (wrapA (zeros 32) 5 2 9 k0H) W h1 h2 (by decide) (by decide) (by decide)
  have hl := wrap_len (zeros 32) 5 2 9 k0H
  rw [if_pos ⟨rfl, rfl⟩, unwrap_wrap (root := zeros 32) 5 2 9 (key := k0H) rfl] at hun
  rw [show k0H.length + 16 = 32 from rfl] at hl
  generalize wrapA (zeros 32) 5 2 9 k0H = S at *
  have HWR : Hid (∀ W, IsB W (some ⟨w.heap.size, 0, none⟩) 32 32 (zeros 32) → IsB W (some ⟨w.heap.size + 1, 0, none⟩) 16 16 k0H → Calls Try.prog 19 #[.slice (some ⟨w.heap.size, 0, none⟩) 32 32, .int .u32 5, .int .u16 2, .int .u64 9, .slice (some ⟨w.heap.size + 1, 0, none⟩) 16 16] W fun e w' => ∃ v, e = .returned (.tuple #[.agg #[.int .u16 2, .int .u64 9, v], .int .i64 0]) ∧ OwB w' W.heap.size v S ∧ Below W.heap.size W w') := Lib.hid hwr
  have HUN : Hid (∀ A c W, IsB W (some ⟨w.heap.size, 0, none⟩) 32 32 (zeros 32) → IsB W A 32 c S → Calls Try.prog 78 #[.slice (some ⟨w.heap.size, 0, none⟩) 32 32, .int .u32 5, .agg #[.int .u16 2, .int .u64 9, .slice A 32 c]] W (OutB W k0H 0)) := Lib.hid hun
  have HL := Lib.hid hl
  clear hwr hun hl z0
  go_enter Try.func21, Try.ntmps21
  go_wp2_with fail
  refine (HWR.out _ Z0.out K0.out).mono ?_
  rintro e w1 ⟨v, rfl, hv, hb⟩
  obtain ⟨A1, c1, rfl, -⟩ := hv.shape
  rw [HL.out] at hv ⊢
  have S1 := Lib.hid (hv.isB HL.out)
  have Z1 := Lib.hid (Z0.out.ab hb)
  have B1 := Lib.hid (below_tr B0.out hb B0.out.size)
  clear hv hb HWR Z0 K0 B0 hmk hcv
  go_wp2_with ((with_reducible refine wpList_store3 (o := ⟨none, .store _ (.tmp 2) (.tmp 12), _, _, _, _⟩) rfl (.tmp 2) (.tmp 12) ?_ w1.heap.size ?_ #[.int .u16 2, .int .u64 9, .slice A1 32 c1] ?_ ?_ ?_ (cs := #[.int .u16 0, .int .u64 0, .slice none 0 0]) ?_ ?_ ?_)
               · rfl
               · rfl
               · rfl
               · rfl
               · (simp [Value.oneCell'])
               · exact heap_alloc_new w1 _
               · rfl
               intro w2 hw2
               have R2 : HdB w2 w1.heap.size #[.int .u16 2, .int .u64 9, .slice A1 32 c1] := by rw [hw2]; exact HdB.row (w := w1.alloc (.cells #[.int .u16 0, .int .u64 0, .slice none 0 0] 32)) (heap_alloc_new w1 _) _
               have hb2 : Below w1.heap.size w1 w2 := by rw [hw2]; exact Below.row ((Below.refl _ _).alloc (Nat.le_refl _) _) (Nat.le_refl _) _
               have B2 := Lib.hid (below_tr B1.out hb2 B1.out.size)
               have S2 := Lib.hid (S1.out.ab hb2)
               have Z2 := Lib.hid (Z1.out.ab hb2)
               obtain ⟨p0, p1, p2⟩ := R2.cells
               have H2 := Lib.hid R2
               clear hw2 hb2)
  refine (HUN.out _ _ _ Z2.out S2.out).mono ?_
  rintro e w3 ⟨v, rfl, hv, hb⟩
  obtain ⟨A3, c3, rfl, -⟩ := hv.shape
  have K3 := hv.isB rfl
  obtain ⟨r0, r1, r2⟩ := (H2.out.ab hb).cells
  have B3 := Lib.hid (below_tr B2.out hb B2.out.size)
  have hst := run_str K3 27 5 9 Try.underlying27 Try.underlying5 Try.underlying9
  have hk := k0H_str
  clear hv hb p0 p1 p2
  go_wp2_with fail
  go_ret
  exact ⟨rfl, B3.out⟩
end Go.Proofs.Ytgnooakjkpkgiaa
