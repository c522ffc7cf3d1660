/-
  WALKS: ctr.Crypt.
-/
import Derived.Test.YtpofndciepoooaaCtE
namespace Go.Proofs.Ytpofndciepoooaa
open Go.RowKit
set_option linter.unusedVariables false

/-- bytes of the call's own and an error's number are handed back; nothing that was there has turned -/
def OutB (w : World) (l : List Nat) (err : Nat) (e : Ending) (w' : World) : Prop :=
  ∃ v, e = .returned (.tuple #[v, .int .i64 (err : Int)]) ∧ OwB w' w.heap.size v l ∧ Below w.heap.size w w'
theorem OutB.refused {w w' : World} (err : Nat) (hb : Below w.heap.size w w') : OutB w [] err (.returned (.tuple #[.slice none 0 0, .int .i64 (err : Int)])) w' := ⟨_, rfl, OwB.nil _ _, hb⟩
theorem below_tr {B : Nat} {w0 w w' : World} (h : Below B w0 w) (hb : Below w.heap.size w w') (hB : B ≤ w.heap.size) : Below B w0 w' := h.trans (hb.mono hB)

theorem Strm.cellOut {w : World} {B b g k c j : Nat} {key at_ blk : List Nat} (h : Strm w B b g key at_ blk k) (hc : B + 1 + 1 + 1 < c) (u : Value) : Strm (w.setCell ⟨c, j, none⟩ u) B b g key at_ blk k :=
  have h1 := h.lt
  have h2 := h.bg
  ⟨(Below.heap_setCell w ⟨c, j, none⟩ u B (by show B ≠ c; omega)).trans h.cc, h.ac.far (by omega) _, h.bc.far (by omega) _, (Below.heap_setCell w ⟨c, j, none⟩ u _ (by show B + 1 + 1 + 1 ≠ c; omega)).trans h.kc, h.cip.cellFar (by omega) (by omega) _, h.lt, h.bg⟩
/-- behind i rounds -/
structure CrSt (B0 B b g go_ : Nat) (w0 w : World) (key nonce text : List Nat) (i : Nat) : Prop where
  st : Strm w B b g key (atS (firstC nonce) i) (blkS key (firstC nonce) i) (kS i)
  out : Bk w go_ 5 (upd (at' (cryptA key nonce text)) (zeros text.length) i)
  below : Below B0 w0 w
  far : B + 1 + 1 + 1 < go_
  lo : B0 ≤ B
  
set_option maxRecDepth 100000 in
set_option maxHeartbeats 2000000 in
theorem crypt_ok (kA nA tA : Option Addr) (kn kc nc tn tc : Nat) (key nonce text : List Nat) (w : World) (hK : KeyOk key) (ik : IsB w kA kn kc key) (inn : IsB w nA 12 nc nonce) (it : IsB w tA tn tc text) (ht : tn ≤ 65536) :
    Calls Try.prog 27 #[.slice kA kn kc, .slice nA 12 nc, .slice tA tn tc] w (OutB w (cryptA key nonce text) 0) := by
  have lk := ik.len
  have ln := inn.len
  have lt := it.len
  have hnew := new_any (key.length / 4) kn key kA kc w hK.four (by rw [← lk]; exact hK.len) ik
  have hmk : ∀ W : World, (Instr.makeSlice 22 (.int .i64 (tn : Int)) (.int .i64 (tn : Int))).run Try.prog W = .ok (.slice (some ⟨W.heap.size, 0, none⟩) tn tn) (W.alloc (.cells (bts (zeros tn)) 5)) := fun W => make_u8 tn tn (Nat.le_refl _) (by omega) W
  have hd : decide (65536 < (tn : Int)) = false := by simp; omega
  have lf : (firstC nonce).length = 16 := firstC_len ln
  have bf : Byt (firstC nonce) := firstC_byt inn.2
  have IK := Lib.hid ik
  have IN := Lib.hid inn
  have IT := Lib.hid it
  have HN := Lib.hid hnew
  have HK := Lib.hid hK
  have LF := Lib.hid lf
  have LT := Lib.hid lt
  have HT := Lib.hid ht
  clear ik inn it hnew hK lk ln lt lf
  go_enter Try.func27, Try.ntmps27
  go_wp2_with fail
  refine HN.out.mono ?_
  rintro e w1 ⟨b, g, rfl, hbg, hwb, hC, hb1⟩
  have R1 := Lib.hid hC
  have R2 := Lib.hid hb1
  have R3 := Lib.hid hbg
  have R4 : Hid (IsB w1 nA 12 nc nonce) := Lib.hid (IN.out.ab hb1)
  clear hC hb1 hbg hwb HN
  go_wp2_with fail
  refine (first_any nA nc nonce w1 R4.out).mono ?_
  rintro e w2 ⟨rfl, hb2⟩
  have S1 : Hid (CipK w2 b g (key.length / 4) key) := Lib.hid (R1.out.ab hb2)
  have S2 : Hid (Below w.heap.size w w2) := Lib.hid (below_tr R2.out hb2 R2.out.size)
  clear hb2 R1 R2 R4
  obtain ⟨F, hF⟩ : ∃ F, F = firstC nonce := ⟨_, rfl⟩
  rw [← hF] at LF bf
  rw [← hF]
  have HF := Lib.hid hF
  clear hF
  go_wp2_with (first
    | (refine wpList_storeN (l := z16) (o := ⟨none, .store _ (.tmp 10) (.tmp 26), _, _, _, _⟩) rfl 23 (.tmp 10) (.tmp 26) rfl w2.heap.size rfl F rfl (t := 23) ?_ (by rw [LF.out]; exact sz16) (by rw [LF.out]; rfl) ?_
       · exact Bk.newAt _ z16 rfl
       intro w3 hw3
       have T1 : Hid (Bk w3 w2.heap.size 23 F) := Lib.hid (by rw [hw3]; exact (show Bk (w2.alloc (.cells (bts z16) 23)) w2.heap.size 23 z16 from Bk.newAt _ z16 rfl).row _)
       have T2 : Hid (Below w.heap.size w w3) := Lib.hid (by rw [hw3]; exact Below.row (S2.out.alloc S2.out.size _) S2.out.size _)
       have T3 : Hid (CipK w3 b g (key.length / 4) key) := Lib.hid (by
         rw [hw3]
         have hlt := S1.out.cip.lt
         have hlb := S1.out.wd.lt
         exact (S1.out.ab ((Below.refl _ _).alloc (Nat.le_refl _) _)).rowFar (by omega) (by omega) _)
       clear hw3)
    | (refine wpList_loadB (l := F) (o := ⟨some 35, _, _, _, _, _⟩) rfl 23 (.tmp 10) rfl w2.heap.size rfl (t := 23) ?_ Try.underlying23 (by rw [LF.out]; exact sz16) ?_
       · exact T1.out))
  refine (stream_any b g key F w3 T3.out R3.out LF.out).mono ?_
  rintro e w4 ⟨rfl, hS, hb4⟩
  have U1 := Lib.hid hS
  have U2 : Hid (Below w.heap.size w w4) := Lib.hid (below_tr T2.out hb4 T2.out.size)
  have U3 : Hid (w.heap.size ≤ w3.heap.size) := Lib.hid T2.out.size
  have U4 : Hid (w3.heap.size + 1 + 1 + 1 < w4.heap.size) := Lib.hid (lt_of_block hS.kc)
  clear hS hb4 S1 S2 T1 T2 T3
  generalize w3.heap.size = B at *
  go_wp2_with fail
  have V0 : Hid (CrSt w.heap.size B b g w4.heap.size w (w4.alloc (.cells (bts (zeros tn)) 5)) key nonce text 0) := Lib.hid (by
    refine ⟨?_, ?_, U2.out.alloc U2.out.size _, U4.out, U3.out⟩
    · rw [← HF.out]
      exact U1.out.call ((Below.refl _ _).alloc (Nat.le_refl _) _)
    · rw [upd_zero, LT.out]
      exact Bk.newAt _ (zeros tn) rfl)
  have hgo : B + 1 + 1 + 1 < w4.heap.size := U4.out
  have HGO := Lib.hid hgo
  clear U1 U2 U3 U4 hgo hmk hd
  generalize w4.heap.size = go_ at *
  go_loopw [13, 14, 42] (fun _ _ j wr => ∃ i : Nat, i ≤ tn ∧ j = .int .i64 i ∧ CrSt w.heap.size B b g go_ w wr key nonce text i) (fun _ _ j _ => tn - (intOf j).toNat)
  case atStart => exact ⟨0, Nat.zero_le _, rfl, V0.out⟩
  case round =>
    obtain ⟨i, hi, rfl, hst⟩ := hrel
    by_cases hlt : i < tn
    · have hii : (i : Int) < (tn : Int) := by omega
      obtain ⟨x, rfl, hxb, hxc⟩ := IT.out.cell (by omega)
      have hcl : wr.cell? (x.add i) = some (.int .u8 (at' text i : Nat)) := (hst.below.cell (by rw [add_block]; exact hxb)).trans (hxc i hlt)
      have hca := cryptA_at (key := key) (nonce := nonce) (text := text) (i := i) (by rw [LT.out]; exact hlt)
      have hks := ksB_lt HK.out IK.out.2 bf i
      rw [HF.out] at hks
      have hta := IT.out.2.at' i
      have hcon := strm_at B b g i key (firstC nonce) wr hst.st HK.out IK.out.2 (by rw [← HF.out]; exact bf) (by rw [← HF.out]; exact LF.out)
      generalize hksE : ksB key (firstC nonce) i = ks at *
      generalize at' text i = tx at *
      have hxo := bits_xor_u8 tx ks hta hks
      have HST := Lib.hid hst
      have HCA := Lib.hid hca
      have HCON := Lib.hid hcon
      clear hst hca hcon hksE hxc V0
      go_wp2_with fail
      refine HCON.out.mono ?_
      rintro e wq ⟨rfl, hS, hO⟩
      have hob := hO.bk HST.out.out (.inr HST.out.far)
      have hoc := hob.cell (k := i) (by rw [upd_len, zeros_len, LT.out]; exact hlt)
      have hof := hob.free i
      have hon := hob.set i (tx ^^^ ks)
      rw [← HCA.out, upd_step (at' (cryptA key nonce text)) (zeros text.length) i (by rw [zeros_len, LT.out]; exact hlt), HCA.out] at hon
      generalize (upd (at' (cryptA key nonce text)) (zeros text.length) i)[i]?.getD 0 = u0 at hoc
      have HNX : Hid (CrSt w.heap.size B b g go_ w (wq.setCell ⟨go_, i, none⟩ (.int .u8 ((tx ^^^ ks : Nat) : Int))) key nonce text (i + 1)) := Lib.hid (by
        have hfar := HST.out.far
        have hlo := HST.out.lo
        refine ⟨?_, hon, (hO.below HST.out.below (by omega) HST.out.below.size).setCell (by show w.heap.size ≤ go_; omega) _, hfar, hlo⟩
        exact hS.cellOut (by omega) _)
      clear hS hO hob hon HCON HST HCA
      go_wp2_with fail
      go_roundw
      case rel => exact ⟨i + 1, by omega, by go_num, HNX.out⟩
      case measure => simp [intOf]; omega
    · obtain rfl : i = tn := by omega
      have hb := hst.out
      have hall := upd_all (at' (cryptA key nonce text)) (zeros text.length)
      rw [zeros_len, LT.out] at hall
      rw [LT.out, hall] at hb
      have HB : Hid (Bk wr go_ 5 (cryptA key nonce text)) := Lib.hid (by
        have e : (List.range i).map (at' (cryptA key nonce text)) = cryptA key nonce text := by
          refine at'_ext (by simp [cryptA_len, LT.out]) fun j hj => ?_
          have hj : j < i := by simpa using hj
          simp [at', hj]
        rw [e] at hb
        exact hb)
      have HL := Lib.hid hst.below
      have hge : w.heap.size ≤ go_ := by have := hst.far; have := hst.lo; omega
      have HC := cryptA_byt (nonce := nonce) (text := text) HK.out IK.out.2 IN.out.2 IT.out.2
      have HCL : (cryptA key nonce text).length = i := by rw [cryptA_len, LT.out]
      have HGE := Lib.hid hge
      have HCC := Lib.hid HC
      have HLL := Lib.hid HCL
      clear hst hb hall V0 hge HC HCL
      go_wp2_with fail
      go_ret2
      exact ⟨_, rfl, OwB.ofBk HB.out HGE.out HLL.out (Nat.le_refl _) HLL.out (by have := HT.out; omega) (List.take_of_length_le (by rw [HLL.out]; exact Nat.le_refl _)) HCC.out, HL.out⟩
end Go.Proofs.Ytpofndciepoooaa
