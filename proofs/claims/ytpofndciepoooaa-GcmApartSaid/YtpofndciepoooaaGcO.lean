/-
  GcmApart: the walk.
-/
import Derived.Test.YtpofndciepoooaaGcL
import Derived.Test.YtpofndciepoooaaCtL
namespace Go.Proofs.Ytpofndciepoooaa
open Go.RowKit
set_option linter.unusedVariables false

theorem xor_four (a b k : Nat) : (a ^^^ k) ^^^ (b ^^^ k) = a ^^^ b := by
  rw [xor4 a k b k, Nat.xor_self, Nat.xor_zero]
theorem sealA_at {key nonce aad t : List Nat} {i : Nat} (h : i < t.length) : at' (sealA key nonce aad t) i = at' t i ^^^ ksB key (firstC nonce) i := by
  rw [sealA, at_left _ _ _ (by rw [cryptA_len]; exact h), cryptA_at h]
theorem wpList_min3 {ops : Array Oper} {rest : List Oper} {o : Oper} {a : Act} {w : World} {Q : Exit → Act → World → Prop} (hgd : o.guard = none) (x y : Operand)
    (ho : o.op = .call { callee := .builtin .min, args := #[x, y, .const (.int .i64 2000)], argTypes := #[3, 3, 3] }) (p q m : Nat) (hx : a.eval x = .int .i64 (p : Int)) (hy : a.eval y = .int .i64 (q : Int)) (hm : m = min (min p q) 2000)
    (h : wpList Try.prog ops Q rest (a.put o.dst (.int .i64 (m : Int))) w) : wpList Try.prog ops Q (o :: rest) a w := by
  have hu := Try.underlying3
  refine wpList_plain hgd fun K hK => ?_
  have hK := hK _ _ h
  unfold Oper.wp execOp
  have e : (m : Int) = (if (2000 : Int) < (if q < p then (q : Int) else (p : Int)) then 2000 else if q < p then (q : Int) else (p : Int)) := by
    by_cases h1 : q < p
    · rw [if_pos h1]
      split <;> omega
    · rw [if_neg h1]
      split <;> omega
  rw [e] at hK
  simp only [ho, hx, hy, resolve, List.map_toArray, List.map_cons, List.map_nil]
  clear hm h e
  go_simp
  exact hK
set_option maxRecDepth 100000 in
set_option maxHeartbeats 4000000 in
theorem gapart_any (kA nA aA xA yA : Option Addr) (kn kc nn nc an ac xn xc yn yc : Nat) (key nonce aad x y : List Nat) (w : World) (ik : IsB w kA kn kc key) (inn : IsB w nA nn nc nonce) (ia : IsB w aA an ac aad) (ix : IsB w xA xn xc x) (iy : IsB w yA yn yc y) :
    Calls Try.prog 10 #[.slice kA kn kc, .slice nA nn nc, .slice aA an ac, .slice xA xn xc, .slice yA yn yc] w fun e w' => e = .returned (.bool true) ∧ Below w.heap.size w w' := by
  obtain ⟨m, hm⟩ : ∃ m : Nat, m = min (min xn yn) 2000 := ⟨_, rfl⟩
  have hmi : min (min (xn : Int) (yn : Int)) 2000 = (m : Int) := by omega
  by_cases h2 : 2000 < an
  · have hd : decide (2000 < (an : Int)) = true := by simp; omega
    clear h2 ik inn ia ix iy
    go_enter Try.func10, Try.ntmps10
    go_wp2_with (refine wpList_min3 (o := ⟨some 21, .call ⟨.builtin .min, _, _⟩, _, _, _, _⟩) rfl (.tmp 18) (.tmp 20) rfl xn yn m rfl rfl hm ?_)
    refine (known6_any _).mono ?_
    rintro e w' ⟨rfl, hb⟩
    have HB := Lib.hid hb
    clear hb
    go_wp2_with fail
    go_ret
    exact ⟨rfl, HB.out⟩
  · have hd : decide (2000 < (an : Int)) = false := by simp; omega
    have lx := ix.len
    have ly := iy.len
    have la := ia.len
    have cx := ix.1.lenCap
    have cy := iy.1.lenCap
    have mx : m ≤ xn := by omega
    have my : m ≤ yn := by omega
    have hm0 : m ≤ 2000 := by omega
    have hs1 := fun W => sl_upto W xA xn xc m (by omega)
    have hs2 := fun W => sl_upto W yA yn yc m (by omega)
    have itx := ix.take mx
    have ity := iy.take my
    have hsx := fun W h1 h2 h3 h4 => gseal_any kA nA aA xA kn kc nn nc an ac m xc key nonce aad (x.take m) W h1 h2 h3 h4
    have hsy := fun W h1 h2 h4 => gseal_any kA nA none yA kn kc nn nc 0 0 m yc key nonce [] (y.take m) W h1 h2 (isB_nil W) h4
    have lx2 : (x.take m).length = m := by rw [List.length_take]; omega
    have ly2 : (y.take m).length = m := by rw [List.length_take]; omega
    have ax : ∀ i, i < m → at' (x.take m) i = at' x i := fun i hi => at'_take8 hi
    have ay : ∀ i, i < m → at' (y.take m) i = at' y i := fun i hi => at'_take8 hi
    by_cases hG : GOk key nonce
    · have e1 : sealS key nonce aad (x.take m) = (sealA key nonce aad (x.take m), 0) := by
        unfold sealS
        rw [if_pos hG, if_neg (by omega)]
      have e2 : sealS key nonce [] (y.take m) = (sealA key nonce [] (y.take m), 0) := by
        unfold sealS
        rw [if_pos hG, if_neg (by simp; omega)]
      rw [e1] at hsx
      rw [e2] at hsy
      have l1 := sealA_len key nonce aad (x.take m)
      have l2 := sealA_len key nonce [] (y.take m)
      rw [lx2] at l1
      rw [ly2] at l2
      have hxy : ∀ i, i < m → at' (sealA key nonce aad (x.take m)) i ^^^ at' (sealA key nonce [] (y.take m)) i = at' x i ^^^ at' y i := fun i hi => by
        rw [sealA_at (by omega), sealA_at (by omega), xor_four, ax i hi, ay i hi]
      generalize sealA key nonce aad (x.take m) = X at *
      generalize sealA key nonce [] (y.take m) = Y at *
      have IK := Lib.hid ik
      have IN := Lib.hid inn
      have IA := Lib.hid ia
      have IX := Lib.hid ix
      have IY := Lib.hid iy
      have ITX := Lib.hid itx
      have ITY := Lib.hid ity
      have HSX := Lib.hid hsx
      have HSY := Lib.hid hsy
      have HXY := Lib.hid hxy
      have L1 := Lib.hid l1
      have L2 := Lib.hid l2
      have MX := Lib.hid mx
      have MY := Lib.hid my
      have HM := Lib.hid hm
      have hmb : (m : Int) ≤ 2000 := by omega
      clear ik inn ia ix iy itx ity hsx hsy hxy l1 l2 lx ly la cx cy mx my hm0 lx2 ly2 ax ay e1 e2 hG h2 hm hmi
      go_enter Try.func10, Try.ntmps10
      go_wp2_with (refine wpList_min3 (o := ⟨some 21, .call ⟨.builtin .min, _, _⟩, _, _, _, _⟩) rfl (.tmp 18) (.tmp 20) rfl xn yn m rfl rfl HM.out ?_)
      refine (HSX.out w IK.out IN.out IA.out ITX.out).mono ?_
      rintro e w1 ⟨v1, rfl, hv1, hb1⟩
      obtain ⟨A1, c1, rfl, -, -⟩ := hv1.shape
      rw [L1.out] at hv1 ⊢
      have X1 := Lib.hid (hv1.isB L1.out)
      have B1 := Lib.hid hb1
      clear hv1 hb1 HSX
      go_wp2_with fail
      refine (HSY.out w1 (IK.out.ab B1.out) (IN.out.ab B1.out) (ITY.out.ab B1.out)).mono ?_
      rintro e w2 ⟨v2, rfl, hv2, hb2⟩
      obtain ⟨A2, c2, rfl, -, -⟩ := hv2.shape
      rw [L2.out] at hv2 ⊢
      have Y2 := Lib.hid (hv2.isB L2.out)
      have X2 := Lib.hid (X1.out.ab hb2)
      have B2 := Lib.hid (below_tr B1.out hb2 B1.out.size)
      clear hv2 hb2 X1 B1 HSY
      go_wp2_with fail
      go_loopw [16, 75] (fun _ j wr => ∃ i : Nat, i ≤ m ∧ j = .int .i64 i ∧ Below w2.heap.size w2 wr) (fun _ j _ => m - (intOf j).toNat)
      case atStart => exact ⟨0, Nat.zero_le _, rfl, Below.refl _ _⟩
      case round =>
        obtain ⟨i, hi, rfl, kb⟩ := hrel
        by_cases hlt : i < m
        · have hii : (i : Int) < (m : Int) := by omega
          have hx1 : (i : Int) < (xn : Int) := by have := MX.out; omega
          have hy1 : (i : Int) < (yn : Int) := by have := MY.out; omega
          have hm16 : (i : Int) < (m : Int) + 16 := by omega
          obtain ⟨p, rfl, -, hpc⟩ := (X2.out.ab kb).cell (by omega)
          obtain ⟨q, rfl, -, hqc⟩ := (Y2.out.ab kb).cell (by omega)
          obtain ⟨r, rfl, -, hrc⟩ := ((IX.out.ab B2.out).ab kb).cell (by omega)
          obtain ⟨s, rfl, -, hsc⟩ := ((IY.out.ab B2.out).ab kb).cell (by omega)
          have c1 := hpc i (by omega)
          have c2 := hqc i (by omega)
          have c3 := hrc i (by omega)
          have c4 := hsc i (by omega)
          have t1 := X2.out.2.at' i
          have t2 := Y2.out.2.at' i
          have t3 := IX.out.2.at' i
          have t4 := IY.out.2.at' i
          have hxo := HXY.out i hlt
          generalize at' X i = a1 at *
          generalize at' Y i = a2 at *
          generalize at' x i = a3 at *
          generalize at' y i = a4 at *
          have q1 := bits_xor_u8 a1 a2 t1 t2
          have q2 := bits_xor_u8 a3 a4 t3 t4
          rw [hxo] at q1
          have KB := Lib.hid kb
          clear kb hpc hqc hrc hsc hxo
          go_wp2_with fail
          refine wp_still_tail 18 (by kernel_rfl) (by kernel_rfl) ?_
          simp only [List.take_succ_cons, List.take_zero, List.drop_succ_cons, List.drop_zero]
          repeat still_step
          refine wpStill_nil ?_
          go_wp2_with fail
          go_roundw
          case rel => exact ⟨i + 1, by omega, by go_num, KB.out.drew⟩
          case measure => simp [intOf]; omega
        · obtain rfl : i = m := by omega
          have KB := Lib.hid (below_tr B2.out kb B2.out.size)
          clear kb
          go_wp2_with fail
          refine (known6_any _).mono ?_
          rintro e w7 ⟨rfl, b7⟩
          have B7 := Lib.hid (below_tr KB.out b7 KB.out.size)
          clear b7
          go_wp2_with fail
          go_ret
          exact ⟨rfl, B7.out⟩
    · have e1 : sealS key nonce aad (x.take m) = ([], 2) := by
        unfold sealS
        rw [if_neg hG]
      have e2 : sealS key nonce [] (y.take m) = ([], 2) := by
        unfold sealS
        rw [if_neg hG]
      rw [e1] at hsx
      rw [e2] at hsy
      have IK := Lib.hid ik
      have IN := Lib.hid inn
      have IA := Lib.hid ia
      have ITX := Lib.hid itx
      have ITY := Lib.hid ity
      have HSX := Lib.hid hsx
      have HSY := Lib.hid hsy
      have HM := Lib.hid hm
      have hmb : (m : Int) ≤ 2000 := by omega
      clear ik inn ia ix iy itx ity hsx hsy lx ly la cx cy mx my hm0 lx2 ly2 ax ay e1 e2 hG h2 hm hmi
      go_enter Try.func10, Try.ntmps10
      go_wp2_with (refine wpList_min3 (o := ⟨some 21, .call ⟨.builtin .min, _, _⟩, _, _, _, _⟩) rfl (.tmp 18) (.tmp 20) rfl xn yn m rfl rfl HM.out ?_)
      refine (HSX.out w IK.out IN.out IA.out ITX.out).mono ?_
      rintro e w1 ⟨v1, rfl, hv1, hb1⟩
      have B1 := Lib.hid hb1
      clear hv1 hb1 HSX
      go_wp2_with fail
      refine (HSY.out w1 (IK.out.ab B1.out) (IN.out.ab B1.out) (ITY.out.ab B1.out)).mono ?_
      rintro e w2 ⟨v2, rfl, hv2, hb2⟩
      have B2 := Lib.hid (below_tr B1.out hb2 B1.out.size)
      clear hv2 hb2 B1 HSY
      go_wp2_with fail
      refine (known6_any _).mono ?_
      rintro e w7 ⟨rfl, b7⟩
      have B7 := Lib.hid (below_tr B2.out b7 B2.out.size)
      clear b7
      go_wp2_with fail
      go_ret
      exact ⟨rfl, B7.out⟩
theorem gapart_walk (kA : Option Addr) (kn kc : Nat) (zk : List Int) (nA : Option Addr) (nn nc : Nat) (zn : List Int) (aA : Option Addr) (an ac : Nat) (za : List Int) (xA : Option Addr) (xn xc : Nat) (zx : List Int) (yA : Option Addr) (yn yc : Nat) (zy : List Int) (w : World) (hk : IsRow .u8 w kA kn kc zk) (sk : kc * 1 ≤ 140737488351232) (hn : IsRow .u8 w nA nn nc zn) (sn : nc * 1 ≤ 140737488351232) (ha : IsRow .u8 w aA an ac za) (sa : ac * 1 ≤ 140737488351232) (hx : IsRow .u8 w xA xn xc zx) (sx : xc * 1 ≤ 140737488351232) (hy : IsRow .u8 w yA yn yc zy) (sy : yc * 1 ≤ 140737488351232) :
    Calls Try.prog 10 #[.slice kA kn kc, .slice nA nn nc, .slice aA an ac, .slice xA xn xc, .slice yA yn yc] w fun e w' => e = .returned (.bool true) ∧ Below w.heap.size w w' := by
  obtain ⟨key, rfl, bk⟩ := byt_of_row hk
  obtain ⟨nonce, rfl, bn⟩ := byt_of_row hn
  obtain ⟨aad, rfl, ba⟩ := byt_of_row ha
  obtain ⟨x, rfl, bx⟩ := byt_of_row hx
  obtain ⟨y, rfl, by'⟩ := byt_of_row hy
  exact gapart_any kA nA aA xA yA kn kc nn nc an ac xn xc yn yc key nonce aad x y w ⟨hk, bk⟩ ⟨hn, bn⟩ ⟨ha, ba⟩ ⟨hx, bx⟩ ⟨hy, by'⟩
end Go.Proofs.Ytpofndciepoooaa
