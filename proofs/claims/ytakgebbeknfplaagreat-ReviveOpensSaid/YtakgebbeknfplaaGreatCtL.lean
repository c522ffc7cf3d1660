/-
  FOR THE LAWS of layer 5: the refusals; what is known.
  CtrCrypts: the walk.
  CtrBlocks and CtrBack: the walks.
  CtrBack: the walk.
-/
import Derived.Test.YtakgebbeknfplaaGreatCtH
import Derived.Test.YtakgebbeknfplaaGreatCtC
import Derived.Test.YtakgebbeknfplaaGreatWid3
namespace Go.Proofs.YtakgebbeknfplaaGreat
open Go.RowKit
set_option linter.unusedVariables false

def ctC : List Nat := [0x03, 0x88, 0xda, 0xce, 0x60, 0xb6, 0xa3, 0x92, 0xf3, 0x28, 0xc2, 0xb9, 0x71, 0xb2, 0xfe, 0x78]
theorem ct_known : cryptA (zeros 16) (zeros 12) (zeros 16) = ctC := by decide +kernel

theorem ct_str : ((strOf ctC).toList == [3, 136, 218, 206, 96, 182, 163, 146, 243, 40, 194, 185, 113, 178, 254, 120]) = true := by decide +kernel
/-- the bytes of an error, and what has been handed back -/
theorem OutB.form {w w' : World} {l : List Nat} {err : Nat} {e : Ending} (h : OutB w l err e w') : ∃ A c, e = .returned (.tuple #[.slice A l.length c, .int .i64 (err : Int)]) ∧ IsB w' A l.length c l ∧ Below w.heap.size w w' := by
  obtain ⟨v, rfl, ho, hb⟩ := h
  obtain ⟨A, c, rfl, h1, h2⟩ := ho.shape
  exact ⟨A, c, rfl, ho.isB rfl, hb⟩

/-! the refusals -/
set_option maxRecDepth 100000 in
set_option maxHeartbeats 1000000 in
theorem first_bad (A : Option Addr) (n c : Nat) (w : World) (hn : n ≠ 12) :
    Calls Tryz.prog 261 #[.slice A n c] w fun e w' => e = .returned (.tuple #[.agg (bts z16), .int .i64 2]) ∧ Below w.heap.size w w' := by
  have h1 : ((n : Int) != 12) = true := by simp; omega
  have hz : z16.length = 16 := rfl
  have B1 : Hid (Bk (w.alloc (.cells (bts z16) 365)) w.heap.size 365 z16) := Lib.hid (Bk.newAt _ z16 rfl)
  have B2 : Hid (Below w.heap.size w (w.alloc (.cells (bts z16) 365))) := Lib.hid ((Below.refl _ _).alloc (Nat.le_refl _) _)
  go_enter Tryz.func261, Tryz.ntmps261
  go_wp2_with (refine wpList_storeN (l := z16) (o := ⟨none, .store _ (.tmp 2) (.tmp 8), _, _, _, _⟩) rfl 365 (.tmp 2) (.tmp 8) rfl w.heap.size rfl z16 rfl (t := 365) ?_ sz16 rfl ?_
               · exact B1.out
               intro w2 hw2
               have C1 : Hid (Bk w2 w.heap.size 365 z16) := Lib.hid (by rw [hw2]; exact B1.out.row _)
               have C2 : Hid (Below w.heap.size w w2) := Lib.hid (by rw [hw2]; exact Below.row B2.out (Nat.le_refl _) _)
               clear hw2)
  refine bodyPost_ret (results_bts2 Tryz.results261 _ _ _ rfl C1.out Tryz.underlying365 sz16) rfl ?_
  exact ⟨rfl, C2.out⟩

set_option maxRecDepth 100000 in
set_option maxHeartbeats 1000000 in
theorem crypt_key (kA nA tA : Option Addr) (kn kc nn nc tn tc : Nat) (w : World) (h1 : kn ≠ 16) (h2 : kn ≠ 32) :
    Calls Tryz.prog 228 #[.slice kA kn kc, .slice nA nn nc, .slice tA tn tc] w (OutB w [] 2) := by
  have hn := new_bad kA kn kc h1 h2 w
  go_enter Tryz.func228, Tryz.ntmps228
  go_wp2_with fail
  refine hn.mono ?_
  rintro e w' ⟨rfl, rfl⟩
  go_wp2_with fail
  go_ret2
  exact OutB.refused 2 (Below.refl _ _)
set_option maxRecDepth 100000 in
set_option maxHeartbeats 1000000 in
theorem crypt_nonce (kA nA tA : Option Addr) (kn kc nn nc tn tc : Nat) (key : List Nat) (w : World) (hK : KeyOk key) (ik : IsB w kA kn kc key) (hn : nn ≠ 12) :
    Calls Tryz.prog 228 #[.slice kA kn kc, .slice nA nn nc, .slice tA tn tc] w (OutB w [] 2) := by
  have lk := ik.len
  have hnew := new_any (key.length / 4) kn key kA kc w hK.four (by rw [← lk]; exact hK.len) ik
  have HN := Lib.hid hnew
  clear hnew ik hK lk
  go_enter Tryz.func228, Tryz.ntmps228
  go_wp2_with fail
  refine HN.out.mono ?_
  rintro e w1 ⟨b, g, rfl, hbg, hwb, hC, hb1⟩
  have R2 := Lib.hid hb1
  clear hb1 hC hbg hwb
  go_wp2_with fail
  refine (first_bad nA nn nc w1 hn).mono ?_
  rintro e w2 ⟨rfl, hb2⟩
  have S2 : Hid (Below w.heap.size w w2) := Lib.hid (below_tr R2.out hb2 R2.out.size)
  clear hb2
  go_wp2_with (refine wpList_storeN (l := z16) (o := ⟨none, .store _ (.tmp 10) (.tmp 26), _, _, _, _⟩) rfl 365 (.tmp 10) (.tmp 26) rfl w2.heap.size rfl z16 rfl (t := 365) ?_ sz16 rfl ?_
               · exact Bk.newAt _ z16 rfl
               intro w3 hw3
               have T2 : Hid (Below w.heap.size w w3) := Lib.hid (by rw [hw3]; exact Below.row (S2.out.alloc S2.out.size _) S2.out.size _)
               clear hw3)
  go_ret2
  exact OutB.refused 2 T2.out
set_option maxRecDepth 100000 in
set_option maxHeartbeats 1000000 in
theorem crypt_long (kA nA tA : Option Addr) (kn kc nc tn tc : Nat) (key nonce : List Nat) (w : World) (hK : KeyOk key) (ik : IsB w kA kn kc key) (inn : IsB w nA 12 nc nonce) (ht : 65536 < tn) :
    Calls Tryz.prog 228 #[.slice kA kn kc, .slice nA 12 nc, .slice tA tn tc] w (OutB w [] 3) := by
  have lk := ik.len
  have hnew := new_any (key.length / 4) kn key kA kc w hK.four (by rw [← lk]; exact hK.len) ik
  have HN := Lib.hid hnew
  have IN := Lib.hid inn
  have lf : (firstC nonce).length = 16 := firstC_len inn.len
  have hti : decide (65536 < (tn : Int)) = true := by simp; omega
  clear hnew ik hK lk inn
  generalize hF : firstC nonce = F at *
  have HF := Lib.hid hF
  have LF := Lib.hid lf
  clear hF lf
  go_enter Tryz.func228, Tryz.ntmps228
  go_wp2_with fail
  refine HN.out.mono ?_
  rintro e w1 ⟨b, g, rfl, hbg, hwb, hC, hb1⟩
  have R2 := Lib.hid hb1
  have R4 : Hid (IsB w1 nA 12 nc nonce) := Lib.hid (IN.out.ab hb1)
  clear hb1 hC hbg hwb
  go_wp2_with fail
  refine (first_any nA nc nonce w1 R4.out).mono ?_
  rintro e w2 ⟨rfl, hb2⟩
  rw [HF.out]
  have S2 : Hid (Below w.heap.size w w2) := Lib.hid (below_tr R2.out hb2 R2.out.size)
  clear hb2
  go_wp2_with (refine wpList_storeN (l := z16) (o := ⟨none, .store _ (.tmp 10) (.tmp 26), _, _, _, _⟩) rfl 365 (.tmp 10) (.tmp 26) rfl w2.heap.size rfl F rfl (t := 365) ?_ (by rw [LF.out]; exact sz16) (by rw [LF.out]; rfl) ?_
               · exact Bk.newAt _ z16 rfl
               intro w3 hw3
               have T2 : Hid (Below w.heap.size w w3) := Lib.hid (by rw [hw3]; exact Below.row (S2.out.alloc S2.out.size _) S2.out.size _)
               clear hw3)
  go_ret2
  exact OutB.refused 3 T2.out
/-- P5.2 of the program, whatever comes in -/
theorem crypt_any (kA nA tA : Option Addr) (kn kc nn nc tn tc : Nat) (key nonce text : List Nat) (w : World) (ik : IsB w kA kn kc key) (inn : IsB w nA nn nc nonce) (it : IsB w tA tn tc text) :
    Calls Tryz.prog 228 #[.slice kA kn kc, .slice nA nn nc, .slice tA tn tc] w (OutB w (cryptS key nonce text).1 (cryptS key nonce text).2) := by
  have lk := ik.len
  have ln := inn.len
  have lt := it.len
  by_cases hK : KeyOk key
  · by_cases hn : nn = 12
    · subst hn
      rcases Nat.lt_or_ge 65536 tn with ht | ht
      · rw [cryptS_long hK ln (by omega)]
        exact crypt_long kA nA tA kn kc nc tn tc key nonce w hK ik inn ht
      · rw [cryptS_ok hK ln (by omega)]
        exact crypt_ok kA nA tA kn kc nc tn tc key nonce text w hK ik inn it ht
    · rw [cryptS_arg (fun h => hn (by rw [← ln]; exact h.2))]
      exact crypt_nonce kA nA tA kn kc nn nc tn tc key w hK ik hn
  · rw [cryptS_arg (fun h => hK h.1)]
    exact crypt_key kA nA tA kn kc nn nc tn tc w (fun h => hK (.inl (by omega))) (fun h => hK (.inr (by omega)))
end Go.Proofs.YtakgebbeknfplaaGreat

namespace Go.Proofs.YtakgebbeknfplaaGreat
open Go.RowKit
set_option linter.unusedVariables false

/-- what Copy has made, as the slice that it is -/
theorem copy_isB (A : Option Addr) (n c : Nat) (l : List Nat) (w : World) (h : IsB w A n c l) (hn : n + 3 ≤ 281474976710656) :
    Calls Tryz.prog 81 #[.slice A n c] w fun e w' => e = .returned (.slice (some ⟨w.heap.size, 0, none⟩) n (n + 3)) ∧ IsB w' (some ⟨w.heap.size, 0, none⟩) n (n + 3) l ∧ Below w.heap.size w w' := by
  refine (copy_any A n c l w h hn).mono ?_
  rintro e w' ⟨rfl, hbk, hb⟩
  refine ⟨rfl, ?_, hb⟩
  have hl := h.len
  have := hbk.isB (byt_app h.2 (byt_zeros 3)) n (n + 3) (by rw [List.length_append, hl]; omega) (by omega) (by omega)
  rw [List.take_append_of_le_length (by omega), List.take_of_length_le (by omega)] at this
  exact this
theorem same_yes (A B : Option Addr) (n m c d : Nat) (la lb : List Nat) (w : World) (ha : IsB w A n c la) (hb : IsB w B m d lb) (h : la = lb) :
    Calls Tryz.prog 188 #[.slice A n c, .slice B m d] w fun e w' => e = .returned (.bool true) ∧ w = w' := by
  have := same_any A B n m c d la lb w ha hb
  rw [decide_eq_true h] at this
  exact this

end Go.Proofs.YtakgebbeknfplaaGreat

namespace Go.Proofs.YtakgebbeknfplaaGreat
open Go.RowKit
set_option linter.unusedVariables false

set_option maxRecDepth 100000 in
theorem open16' {w : World} {r : Reach} {base : Nat} {v : Value} (h : Value.okWide Tryz.prog w r base 365 v) : ∃ l, v = .agg (bts l) ∧ Byt l ∧ l.length = 16 :=
  okWide_bytes (ts := List.replicate 16 5) Tryz.underlying365 Tryz.underlying5 (by kernel_rfl) (by kernel_rfl) (fun u hu => List.eq_of_mem_replicate hu) h
theorem eq16_yes (a : List Nat) (ha : a.length = 16) (w : World) : (Op.equalIn 10000 365 (.agg (bts a)) (.agg (bts a))).run Tryz.prog w = .ok true w := by
  rw [eq16 a a ha ha w]; simp
end Go.Proofs.YtakgebbeknfplaaGreat

namespace Go.Proofs.YtakgebbeknfplaaGreat
open Go.RowKit
set_option linter.unusedVariables false

theorem IsB.take {w : World} {A : Option Addr} {n c : Nat} {l : List Nat} (h : IsB w A n c l) {m : Nat} (hm : m ≤ n) : IsB w A m c (l.take m) := by
  have := h.1.take hm
  rw [← List.map_take] at this
  exact ⟨this, byt_take h.2 m⟩
theorem str_ab {w0 : World} {A : Option Addr} {n c : Nat} {l : List Nat} (h : IsB w0 A n c l) : ∀ w', AbW w0 w' → (convert 22 9 (.slice A n c)).run Tryz.prog w' = .ok (.string (strOf l)) w' := fun w' hw => run_str (h.below hw) _ _ _ Tryz.underlying22 Tryz.underlying5 Tryz.underlying9
end Go.Proofs.YtakgebbeknfplaaGreat
