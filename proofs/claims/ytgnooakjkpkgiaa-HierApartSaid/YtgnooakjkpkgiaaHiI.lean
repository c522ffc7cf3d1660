/-
  HierApart: the walk.
-/
import Derived.Test.YtgnooakjkpkgiaaHiG
import Derived.Test.YtgnooakjkpkgiaaBack
namespace Go.Proofs.Ytgnooakjkpkgiaa
open Go.RowKit
set_option linter.unusedVariables false

theorem encA_inj {key x y : List Nat} (hk : KeyOk key) (hb : Byt key) (hx : Byt x) (lx : x.length = 16) (hy : Byt y) (ly : y.length = 16) : encA key x = encA key y ↔ x = y :=
  enc_inj _ (wordsAll_exp hk.four hk.len hb).byt hx lx hy ly
theorem drawn_inj {key : List Nat} (hk : KeyOk key) (hb : Byt key) {p a b : Nat} (hp : p < 256) (ha : a < 65536) (hbb : b < 65536) : drawnA key p a = drawnA key p b ↔ a = b := by
  refine ⟨fun h => ?_, fun h => by rw [h]⟩
  have h1 : encA key (blkH p a 0) ++ encA key (blkH p a 1) = encA key (blkH p b 0) ++ encA key (blkH p b 1) := h
  have h2 := (List.append_inj h1 (by rw [encA_len, encA_len])).1
  have h3 := (encA_inj hk hb (blkH_byt hp ha (by decide)) (blkH_len _ _ _) (blkH_byt hp hbb (by decide)) (blkH_len _ _ _)).1 h2
  simp only [blkH, List.cons.injEq, and_true, true_and] at h3
  omega
theorem wrap_inj {root : List Nat} {ten gn cm : Nat} {x y : List Nat} (h : x.length = y.length) : wrapA root ten gn cm x = wrapA root ten gn cm y ↔ x = y := by
  refine ⟨fun e => ?_, fun e => by rw [e]⟩
  have h2 := (List.append_inj e (by rw [cryptA_len, cryptA_len, h])).1
  rw [← crypt_crypt (drawnA root 2 gn) (nonH ten cm) x, h2, crypt_crypt]
theorem wrap_byt {root : List Nat} (hb : Byt root) (hl : root.length = 32) {ten gn cm : Nat} (hg : gn < 65536) {x : List Nat} (hx : Byt x) : Byt (wrapA root ten gn cm x) := by
  have hD := drawnA_byt (key := root) (.inr hl) hb (p := 2) (gn := gn) (by decide) hg
  have hK : KeyOk (drawnA root 2 gn) := .inr (drawnA_len _ _ _)
  have hN : Byt (nonH ten cm) := byt_app (digB_byt _ _) (digB_byt _ _)
  exact byt_app (cryptA_byt hK hD hN hx) (tagA_byt hK hD hN)
/-- bytes in whatever block, and with an answer OK -/
def MkS (l : List Nat) (v : Value) (W : World) : Prop := ∃ A c, v = .slice A l.length c ∧ IsB W A l.length c l
theorem MkS.mono (l : List Nat) : Mono (MkS l) := fun v W W' ⟨A, c, h1, h2⟩ hb => ⟨A, c, h1, h2.ab hb⟩
def MkT (l : List Nat) (v : Value) (W : World) : Prop := ∃ A c, v = .tuple #[.slice A l.length c, .int .i64 0] ∧ IsB W A l.length c l
theorem MkT.mono (l : List Nat) : Mono (MkT l) := fun v W W' ⟨A, c, h1, h2⟩ hb => ⟨A, c, h1, h2.ab hb⟩
set_option maxRecDepth 100000 in
theorem sl_arr32 (W : World) (g : Nat) : (Instr.sliceAt 22 (.pointer (some ⟨g, 0, none⟩)) none none none).run Try.prog W = .ok (.slice (some ⟨g, 0, none⟩) 32 32) W := by
  have h : Try.prog.arrayLen 22 = 32 := by kernel_rfl
  have h2 : (sizeOf (Try.prog.elem 22)).run Try.prog W = .ok 1 W := by kernel_rfl
  rw [run_sliceAt_array_all W _ _ Try.underlying22, h, h2]
  rfl
set_option maxRecDepth 100000 in
theorem sl_arr16 (W : World) (g : Nat) : (Instr.sliceAt 26 (.pointer (some ⟨g, 0, none⟩)) none none none).run Try.prog W = .ok (.slice (some ⟨g, 0, none⟩) 16 16) W := by
  have h : Try.prog.arrayLen 26 = 16 := by kernel_rfl
  have h2 : (sizeOf (Try.prog.elem 26)).run Try.prog W = .ok 1 W := by kernel_rfl
  rw [run_sliceAt_array_all W _ _ Try.underlying26, h, h2]
  rfl
set_option maxRecDepth 100000 in
set_option maxHeartbeats 8000000 in
theorem hapart_any (key x y : List Nat) (ga gb ten cm : Nat) (w : World) (bk : Byt key) (lk : key.length = 32) (bx : Byt x) (lx : x.length = 16) (by' : Byt y) (ly : y.length = 16) (ha : ga < 65536) (hbb : gb < 65536) (ht : ten < 4294967296) (hc : cm < 18446744073709551616) :
    Calls Try.prog 3 #[.agg (bts key), .int .u16 (ga : Int), .int .u16 (gb : Int), .int .u32 (ten : Int), .int .u64 (cm : Int), .agg (bts x), .agg (bts y)] w fun e w' => e = .returned (.bool true) ∧ Below w.heap.size w w' := by
  have k0 : Bk (w.alloc (.cells (bts key) 22)) w.heap.size 22 key := Bk.newAt _ key rfl
  have x0 : Bk ((w.alloc (.cells (bts key) 22)).alloc (.cells (bts x) 26)) (w.heap.size + 1) 26 x := Bk.newAt _ x (by simp)
  have y0 : Bk (((w.alloc (.cells (bts key) 22)).alloc (.cells (bts x) 26)).alloc (.cells (bts y) 26)) (w.heap.size + 1 + 1) 26 y := Bk.newAt _ y (by simp)
  have KB0 : Hid (Bk (((w.alloc (.cells (bts key) 22)).alloc (.cells (bts x) 26)).alloc (.cells (bts y) 26)) w.heap.size 22 key) := Lib.hid ((k0.alloc _).alloc _)
  have XB0 : Hid (Bk (((w.alloc (.cells (bts key) 22)).alloc (.cells (bts x) 26)).alloc (.cells (bts y) 26)) (w.heap.size + 1) 26 x) := Lib.hid (x0.alloc _)
  have YB0 : Hid (Bk (((w.alloc (.cells (bts key) 22)).alloc (.cells (bts x) 26)).alloc (.cells (bts y) 26)) (w.heap.size + 1 + 1) 26 y) := Lib.hid y0
  have KI0 := Lib.hid (isB_whole KB0.out bk lk (by decide))
  have XI0 := Lib.hid (isB_whole XB0.out bx lx (by decide))
  have YI0 := Lib.hid (isB_whole YB0.out by' ly (by decide))
  have BB0 : Hid (Below w.heap.size w (((w.alloc (.cells (bts key) 22)).alloc (.cells (bts x) 26)).alloc (.cells (bts y) 26))) := Lib.hid ((((Below.refl _ _).alloc (Nat.le_refl _) _).alloc (Nat.le_of_lt (by simp)) _).alloc (by simp; omega) _)
  have hK : KeyOk key := .inr lk
  have RA := Lib.hid fun W h => root_any (some ⟨w.heap.size, 0, none⟩) 32 32 ga key W h ha
  have RB := Lib.hid fun W h => root_any (some ⟨w.heap.size, 0, none⟩) 32 32 gb key W h hbb
  have eA : Hid (drawnS key 1 ga = (drawnA key 1 ga, 0)) := Lib.hid (if_pos lk)
  have eB : Hid (drawnS key 1 gb = (drawnA key 1 gb, 0)) := Lib.hid (if_pos lk)
  have lA := Lib.hid (drawnA_len key 1 ga)
  have lB := Lib.hid (drawnA_len key 1 gb)
  have bA := drawnA_byt hK bk (p := 1) (gn := ga) (by decide) ha
  have bB := drawnA_byt hK bk (p := 1) (gn := gb) (by decide) hbb
  have qR : ((strOf (drawnA key 1 ga)).toList == (strOf (drawnA key 1 gb)).toList) = decide (ga = gb) := (str_eq bA bB).trans (decide_eq_decide.2 (drawn_inj hK bk (p := 1) (by decide) ha hbb))
  have MX := Lib.hid fun W h1 h2 => mark_ok (some ⟨w.heap.size, 0, none⟩) (some ⟨w.heap.size + 1, 0, none⟩) 32 16 key x W h1 h2
  have MY := Lib.hid fun W h1 h2 => mark_ok (some ⟨w.heap.size, 0, none⟩) (some ⟨w.heap.size + 1 + 1, 0, none⟩) 32 16 key y W h1 h2
  have hKD : KeyOk (drawnA key 3 0) := .inr (drawnA_len _ _ _)
  have bD := drawnA_byt hK bk (p := 3) (gn := 0) (by decide) (by decide)
  have lMX := Lib.hid (encA_len (drawnA key 3 0) x)
  have lMY := Lib.hid (encA_len (drawnA key 3 0) y)
  have qM : ((strOf (encA (drawnA key 3 0) x)).toList == (strOf (encA (drawnA key 3 0) y)).toList) = decide (x = y) := (str_eq (encA_byt hKD bD bx) (encA_byt hKD bD by')).trans (decide_eq_decide.2 (encA_inj hKD bD bx lx by' ly))
  generalize encA (drawnA key 3 0) x = mx at *
  generalize encA (drawnA key 3 0) y = my at *
  generalize drawnA key 1 ga = D at *
  generalize drawnA key 1 gb = E at *
  have WX := Lib.hid fun A c W h1 h2 => wrap_ok A (some ⟨w.heap.size + 1, 0, none⟩) c 16 ten ga cm D x W h1 h2 ht ha hc
  have WY := Lib.hid fun A c W h1 h2 => wrap_ok A (some ⟨w.heap.size + 1 + 1, 0, none⟩) c 16 ten ga cm D y W h1 h2 ht ha hc
  have lWX := wrap_len D ten ga cm x
  have lWY := wrap_len D ten ga cm y
  rw [lx] at lWX
  rw [ly] at lWY
  replace lWX := Lib.hid lWX
  replace lWY := Lib.hid lWY
  have qW : ((strOf (wrapA D ten ga cm x)).toList == (strOf (wrapA D ten ga cm y)).toList) = decide (x = y) := (str_eq (wrap_byt bA lA.out (ten := ten) (cm := cm) ha bx) (wrap_byt bA lA.out (ten := ten) (cm := cm) ha by')).trans (decide_eq_decide.2 (wrap_inj (x := x) (y := y) (by omega)))
  generalize wrapA D ten ga cm x = wx at *
  generalize wrapA D ten ga cm y = wy at *
  have hab : ((ga : Int) == (gb : Int)) = decide (ga = gb) := by by_cases h : ga = gb <;> simp [h] <;> omega
  have hxy := fun W => eq16 x y lx ly W
  generalize decide (ga = gb) = qa at *
  generalize decide (x = y) = qx at *
  have QR := Lib.hid qR
  have QM := Lib.hid qM
  have QW := Lib.hid qW
  have QA := Lib.hid hab
  have QX := Lib.hid hxy
  have LX := Lib.hid lx
  have LY := Lib.hid ly
  clear k0 x0 y0 bk lk bx lx by' ly ha hbb ht hc hK bA bB hKD bD qR qM qW hab hxy
  have hs32 := fun W => sl_arr32 W w.heap.size
  have hsx := fun W => sl_arr16 W (w.heap.size + 1)
  have hsy := fun W => sl_arr16 W (w.heap.size + 1 + 1)
  go_enter Try.func3, Try.ntmps3
  go_wp2_with fail
  refine (RA.out _ KI0.out).mono ?_
  rw [eA.out]
  rintro e w1 ⟨v, rfl, hv, hb⟩
  obtain ⟨gA, cA, rfl, h1⟩ := hv.cut lA.out (by decide)
  have DI1 := Lib.hid h1
  clear h1 hv
  have KB1 := Lib.hid (KB0.out.ab hb)
  have XB1 := Lib.hid (XB0.out.ab hb)
  have YB1 := Lib.hid (YB0.out.ab hb)
  have KI1 := Lib.hid (KI0.out.ab hb)
  have XI1 := Lib.hid (XI0.out.ab hb)
  have YI1 := Lib.hid (YI0.out.ab hb)
  have BB1 := Lib.hid (below_tr BB0.out hb BB0.out.size)
  clear hb KB0 XB0 YB0 KI0 XI0 YI0 BB0
  go_wp2_with fail
  refine (RB.out _ KI1.out).mono ?_
  rw [eB.out]
  rintro e w2 ⟨v, rfl, hv, hb⟩
  obtain ⟨gB, cB, rfl, h1⟩ := hv.cut lB.out (by decide)
  have EI2 := Lib.hid h1
  clear h1 hv
  have KB2 := Lib.hid (KB1.out.ab hb)
  have XB2 := Lib.hid (XB1.out.ab hb)
  have YB2 := Lib.hid (YB1.out.ab hb)
  have KI2 := Lib.hid (KI1.out.ab hb)
  have XI2 := Lib.hid (XI1.out.ab hb)
  have YI2 := Lib.hid (YI1.out.ab hb)
  have DI2 := Lib.hid (DI1.out.ab hb)
  have BB2 := Lib.hid (below_tr BB1.out hb BB1.out.size)
  clear hb KB1 XB1 YB1 KI1 XI1 YI1 DI1 BB1
  go_wp2_with fail
  refine (WX.out _ _ _ DI2.out XI2.out).mono ?_
  rintro e w3 ⟨v, rfl, hv, hb⟩
  obtain ⟨gX, cX, rfl, h1⟩ := hv.cut lWX.out (by decide)
  have UI3 := Lib.hid h1
  clear h1 hv
  have KB3 := Lib.hid (KB2.out.ab hb)
  have XB3 := Lib.hid (XB2.out.ab hb)
  have YB3 := Lib.hid (YB2.out.ab hb)
  have KI3 := Lib.hid (KI2.out.ab hb)
  have XI3 := Lib.hid (XI2.out.ab hb)
  have YI3 := Lib.hid (YI2.out.ab hb)
  have DI3 := Lib.hid (DI2.out.ab hb)
  have EI3 := Lib.hid (EI2.out.ab hb)
  have BB3 := Lib.hid (below_tr BB2.out hb BB2.out.size)
  clear hb KB2 XB2 YB2 KI2 XI2 YI2 DI2 EI2 BB2
  go_wp2_with ((with_reducible refine wpList_store3 (o := ⟨none, .store _ (.tmp 19) (.tmp 46), _, _, _, _⟩) rfl (.tmp 19) (.tmp 46) ?_ w3.heap.size ?_ #[.int .u16 (ga : Int), .int .u64 (cm : Int), .slice (some ⟨gX, 0, none⟩) 32 cX] ?_ ?_ ?_ (cs := #[.int .u16 0, .int .u64 0, .slice none 0 0]) ?_ ?_ ?_)
               · rfl
               · rfl
               · rfl
               · rfl
               · (simp [Value.oneCell'])
               · exact heap_alloc_new w3 _
               · rfl
               intro w4 hw4
               have hb4 : Below w3.heap.size w3 w4 := by rw [hw4]; exact Below.row ((Below.refl _ _).alloc (Nat.le_refl _) _) (Nat.le_refl _) _
               have UH4 : Hid (HdB w4 w3.heap.size #[.int .u16 (ga : Int), .int .u64 (cm : Int), .slice (some ⟨gX, 0, none⟩) 32 cX]) := Lib.hid (by rw [hw4]; exact HdB.row (w := w3.alloc (.cells #[.int .u16 0, .int .u64 0, .slice none 0 0] 32)) (heap_alloc_new w3 _) _)
               have KB4 := Lib.hid (KB3.out.ab hb4)
               have XB4 := Lib.hid (XB3.out.ab hb4)
               have YB4 := Lib.hid (YB3.out.ab hb4)
               have KI4 := Lib.hid (KI3.out.ab hb4)
               have XI4 := Lib.hid (XI3.out.ab hb4)
               have YI4 := Lib.hid (YI3.out.ab hb4)
               have DI4 := Lib.hid (DI3.out.ab hb4)
               have EI4 := Lib.hid (EI3.out.ab hb4)
               have UI4 := Lib.hid (UI3.out.ab hb4)
               have BB4 := Lib.hid (below_tr BB3.out hb4 BB3.out.size)
               clear hw4)
  clear KB3 XB3 YB3 KI3 XI3 YI3 DI3 EI3 UI3 BB3
  generalize w3.heap.size = g3 at *
  refine (WY.out _ _ _ DI4.out YI4.out).mono ?_
  rintro e w5 ⟨v, rfl, hv, hb⟩
  obtain ⟨gY, cY, rfl, h1⟩ := hv.cut lWY.out (by decide)
  have VI5 := Lib.hid h1
  clear h1 hv hb4
  have KB5 := Lib.hid (KB4.out.ab hb)
  have XB5 := Lib.hid (XB4.out.ab hb)
  have YB5 := Lib.hid (YB4.out.ab hb)
  have KI5 := Lib.hid (KI4.out.ab hb)
  have XI5 := Lib.hid (XI4.out.ab hb)
  have YI5 := Lib.hid (YI4.out.ab hb)
  have DI5 := Lib.hid (DI4.out.ab hb)
  have EI5 := Lib.hid (EI4.out.ab hb)
  have UI5 := Lib.hid (UI4.out.ab hb)
  have UH5 := Lib.hid (UH4.out.ab hb)
  have BB5 := Lib.hid (below_tr BB4.out hb BB4.out.size)
  clear hb KB4 XB4 YB4 KI4 XI4 YI4 DI4 EI4 UI4 UH4 BB4
  go_wp2_with ((with_reducible refine wpList_store3 (o := ⟨none, .store _ (.tmp 21) (.tmp 55), _, _, _, _⟩) rfl (.tmp 21) (.tmp 55) ?_ w5.heap.size ?_ #[.int .u16 (ga : Int), .int .u64 (cm : Int), .slice (some ⟨gY, 0, none⟩) 32 cY] ?_ ?_ ?_ (cs := #[.int .u16 0, .int .u64 0, .slice none 0 0]) ?_ ?_ ?_)
               · rfl
               · rfl
               · rfl
               · rfl
               · (simp [Value.oneCell'])
               · exact heap_alloc_new w5 _
               · rfl
               intro w6 hw6
               have hb6 : Below w5.heap.size w5 w6 := by rw [hw6]; exact Below.row ((Below.refl _ _).alloc (Nat.le_refl _) _) (Nat.le_refl _) _
               have VH6 : Hid (HdB w6 w5.heap.size #[.int .u16 (ga : Int), .int .u64 (cm : Int), .slice (some ⟨gY, 0, none⟩) 32 cY]) := Lib.hid (by rw [hw6]; exact HdB.row (w := w5.alloc (.cells #[.int .u16 0, .int .u64 0, .slice none 0 0] 32)) (heap_alloc_new w5 _) _)
               have KB6 := Lib.hid (KB5.out.ab hb6)
               have XB6 := Lib.hid (XB5.out.ab hb6)
               have YB6 := Lib.hid (YB5.out.ab hb6)
               have KI6 := Lib.hid (KI5.out.ab hb6)
               have XI6 := Lib.hid (XI5.out.ab hb6)
               have YI6 := Lib.hid (YI5.out.ab hb6)
               have DI6 := Lib.hid (DI5.out.ab hb6)
               have EI6 := Lib.hid (EI5.out.ab hb6)
               have UI6 := Lib.hid (UI5.out.ab hb6)
               have UH6 := Lib.hid (UH5.out.ab hb6)
               have VI6 := Lib.hid (VI5.out.ab hb6)
               have BB6 := Lib.hid (below_tr BB5.out hb6 BB5.out.size)
               clear hw6)
  clear KB5 XB5 YB5 KI5 XI5 YI5 DI5 EI5 UI5 UH5 VI5 BB5
  generalize w5.heap.size = g5 at *
  clear hb6
  refine wp_wide3 [⟨58, IsR (.slice (some ⟨w.heap.size, 0, none⟩) 32 32), [], false⟩, ⟨59, IsR (.slice (some ⟨w.heap.size + 1, 0, none⟩) 16 16), [], false⟩, ⟨60, MkT mx, [0, 1], false⟩, ⟨57, MkT mx, [2], false⟩, ⟨61, MkS mx, [3], false⟩, ⟨62, IsR (.int .i64 0), [3], false⟩, ⟨23, MkS mx, [4], false⟩] (by kernel_rfl) (by kernel_rfl) rfl rfl rfl ⟨?_, ?_, ?_, ?_, ?_, ?_, ?_, trivial⟩ ?_
  · refine ⟨rfl, IsR.mono _, fun a W hA hb hd => takes_plain rfl (yields_value _ ?_ rfl)⟩
    have h7 : a.tmps[7]?.getD undef = .pointer (some ⟨w.heap.size, 0, none⟩) := (eval_get a 7).trans ((hA.eval (by simp)).trans rfl)
    have h := hs32 W
    go_simp
  · refine ⟨rfl, IsR.mono _, fun a W hA hb hd => takes_plain rfl (yields_value _ ?_ rfl)⟩
    have h12 : a.tmps[12]?.getD undef = .pointer (some ⟨w.heap.size + 1, 0, none⟩) := (eval_get a 12).trans ((hA.eval (by simp)).trans rfl)
    have h := hsx W
    go_simp
  · refine ⟨rfl, MkT.mono _, fun a W hA hb hd => takes_plain rfl ?_⟩
    have h58 : a.tmps[58]?.getD undef = .slice (some ⟨w.heap.size, 0, none⟩) 32 32 := (eval_get a 58).trans (hd 0 (by simp) _ rfl)
    have h59 : a.tmps[59]?.getD undef = .slice (some ⟨w.heap.size + 1, 0, none⟩) 16 16 := (eval_get a 59).trans (hd 1 (by simp) _ rfl)
    refine yields_call 20 #[.slice (some ⟨w.heap.size, 0, none⟩) 32 32, .slice (some ⟨w.heap.size + 1, 0, none⟩) 16 16] (by go_simp) ((MX.out W (KI6.out.ab hb) (XI6.out.ab hb)).mono ?_)
    rintro e W1 ⟨A1, c1, rfl, hv1, hb1⟩
    exact ⟨_, rfl, ⟨A1, c1, rfl, hv1⟩, hb1⟩
  · refine ⟨rfl, MkT.mono _, fun a W hA hb hd => takes_plain rfl ?_⟩
    obtain ⟨A1, c1, e1, hv1⟩ := hd 2 (by simp) _ rfl
    have h60 : a.tmps[60]?.getD undef = .tuple #[.slice A1 mx.length c1, .int .i64 0] := (eval_get a 60).trans e1
    refine yields_value (.tuple #[.slice A1 mx.length c1, .int .i64 0]) ?_ ⟨A1, c1, rfl, hv1⟩
    go_simp
  · refine ⟨rfl, MkS.mono _, fun a W hA hb hd => takes_plain rfl ?_⟩
    obtain ⟨A1, c1, e1, hv1⟩ := hd 3 (by simp) _ rfl
    have h57 : a.tmps[57]?.getD undef = .tuple #[.slice A1 mx.length c1, .int .i64 0] := (eval_get a 57).trans e1
    refine yields_value (.slice A1 mx.length c1) ?_ ⟨A1, c1, rfl, hv1⟩
    go_simp
  · refine ⟨rfl, IsR.mono _, fun a W hA hb hd => takes_plain rfl ?_⟩
    obtain ⟨A1, c1, e1, hv1⟩ := hd 3 (by simp) _ rfl
    have h57 : a.tmps[57]?.getD undef = .tuple #[.slice A1 mx.length c1, .int .i64 0] := (eval_get a 57).trans e1
    refine yields_value (.int .i64 0) ?_ rfl
    go_simp
  · refine ⟨rfl, MkS.mono _, fun a W hA hb hd => takes_plain rfl ?_⟩
    have ho : MkS mx (a.eval (.tmp 61)) W := hd 4 (by simp) _ rfl
    exact yields_value (a.eval (.tmp 61)) (exec_assign (.tmp 61) rfl W) ho
  intro vs w7 hR hF hb
  obtain ⟨A7, c7, e23, hm⟩ : MkS mx (vs 23) w7 := hR 6 _ rfl
  have e62 : vs 62 = .int .i64 0 := hR 5 _ rfl
  simp only [List.map_cons, List.map_nil, List.foldl_cons, List.foldl_nil, List.length_cons, List.length_nil, List.drop_succ_cons, List.drop_zero, Act.put, List.setIfInBounds_toArray, List.set_cons_zero, List.set_cons_succ, e23, e62]
  rw [lMX.out] at hm ⊢
  have P7 := Lib.hid hm
  clear hR hF hm e23 e62
  generalize vs 58 = q58 at *
  generalize vs 59 = q59 at *
  generalize vs 60 = q60 at *
  generalize vs 57 = q57 at *
  generalize vs 61 = q61 at *
  have KB7 := Lib.hid (KB6.out.ab hb)
  have XB7 := Lib.hid (XB6.out.ab hb)
  have YB7 := Lib.hid (YB6.out.ab hb)
  have KI7 := Lib.hid (KI6.out.ab hb)
  have XI7 := Lib.hid (XI6.out.ab hb)
  have YI7 := Lib.hid (YI6.out.ab hb)
  have DI7 := Lib.hid (DI6.out.ab hb)
  have EI7 := Lib.hid (EI6.out.ab hb)
  have UI7 := Lib.hid (UI6.out.ab hb)
  have UH7 := Lib.hid (UH6.out.ab hb)
  have VI7 := Lib.hid (VI6.out.ab hb)
  have VH7 := Lib.hid (VH6.out.ab hb)
  have BB7 := Lib.hid (below_tr BB6.out hb BB6.out.size)
  clear hb KB6 XB6 YB6 KI6 XI6 YI6 DI6 EI6 UI6 UH6 VI6 VH6 BB6
  go_wp2_with fail
  refine wp_wide3 [⟨64, IsR (.slice (some ⟨w.heap.size, 0, none⟩) 32 32), [], false⟩, ⟨65, IsR (.slice (some ⟨w.heap.size + 1 + 1, 0, none⟩) 16 16), [], false⟩, ⟨66, MkT my, [0, 1], false⟩, ⟨63, MkT my, [2], false⟩, ⟨67, MkS my, [3], false⟩, ⟨68, IsR (.int .i64 0), [3], false⟩, ⟨25, MkS my, [4], false⟩] (by kernel_rfl) (by kernel_rfl) rfl rfl rfl ⟨?_, ?_, ?_, ?_, ?_, ?_, ?_, trivial⟩ ?_
  · refine ⟨rfl, IsR.mono _, fun a W hA hb hd => takes_plain rfl (yields_value _ ?_ rfl)⟩
    have h7 : a.tmps[7]?.getD undef = .pointer (some ⟨w.heap.size, 0, none⟩) := (eval_get a 7).trans ((hA.eval (by simp)).trans rfl)
    have h := hs32 W
    go_simp
  · refine ⟨rfl, IsR.mono _, fun a W hA hb hd => takes_plain rfl (yields_value _ ?_ rfl)⟩
    have h13 : a.tmps[13]?.getD undef = .pointer (some ⟨w.heap.size + 1 + 1, 0, none⟩) := (eval_get a 13).trans ((hA.eval (by simp)).trans rfl)
    have h := hsy W
    go_simp
  · refine ⟨rfl, MkT.mono _, fun a W hA hb hd => takes_plain rfl ?_⟩
    have h64 : a.tmps[64]?.getD undef = .slice (some ⟨w.heap.size, 0, none⟩) 32 32 := (eval_get a 64).trans (hd 0 (by simp) _ rfl)
    have h65 : a.tmps[65]?.getD undef = .slice (some ⟨w.heap.size + 1 + 1, 0, none⟩) 16 16 := (eval_get a 65).trans (hd 1 (by simp) _ rfl)
    refine yields_call 20 #[.slice (some ⟨w.heap.size, 0, none⟩) 32 32, .slice (some ⟨w.heap.size + 1 + 1, 0, none⟩) 16 16] (by go_simp) ((MY.out W (KI7.out.ab hb) (YI7.out.ab hb)).mono ?_)
    rintro e W1 ⟨A1, c1, rfl, hv1, hb1⟩
    exact ⟨_, rfl, ⟨A1, c1, rfl, hv1⟩, hb1⟩
  · refine ⟨rfl, MkT.mono _, fun a W hA hb hd => takes_plain rfl ?_⟩
    obtain ⟨A1, c1, e1, hv1⟩ := hd 2 (by simp) _ rfl
    have h66 : a.tmps[66]?.getD undef = .tuple #[.slice A1 my.length c1, .int .i64 0] := (eval_get a 66).trans e1
    refine yields_value (.tuple #[.slice A1 my.length c1, .int .i64 0]) ?_ ⟨A1, c1, rfl, hv1⟩
    go_simp
  · refine ⟨rfl, MkS.mono _, fun a W hA hb hd => takes_plain rfl ?_⟩
    obtain ⟨A1, c1, e1, hv1⟩ := hd 3 (by simp) _ rfl
    have h63 : a.tmps[63]?.getD undef = .tuple #[.slice A1 my.length c1, .int .i64 0] := (eval_get a 63).trans e1
    refine yields_value (.slice A1 my.length c1) ?_ ⟨A1, c1, rfl, hv1⟩
    go_simp
  · refine ⟨rfl, IsR.mono _, fun a W hA hb hd => takes_plain rfl ?_⟩
    obtain ⟨A1, c1, e1, hv1⟩ := hd 3 (by simp) _ rfl
    have h63 : a.tmps[63]?.getD undef = .tuple #[.slice A1 my.length c1, .int .i64 0] := (eval_get a 63).trans e1
    refine yields_value (.int .i64 0) ?_ rfl
    go_simp
  · refine ⟨rfl, MkS.mono _, fun a W hA hb hd => takes_plain rfl ?_⟩
    have ho : MkS my (a.eval (.tmp 67)) W := hd 4 (by simp) _ rfl
    exact yields_value (a.eval (.tmp 67)) (exec_assign (.tmp 67) rfl W) ho
  intro vs w8 hR hF hb
  obtain ⟨A8, c8, e25, hm⟩ : MkS my (vs 25) w8 := hR 6 _ rfl
  have e68 : vs 68 = .int .i64 0 := hR 5 _ rfl
  simp only [List.map_cons, List.map_nil, List.foldl_cons, List.foldl_nil, List.length_cons, List.length_nil, List.drop_succ_cons, List.drop_zero, Act.put, List.setIfInBounds_toArray, List.set_cons_zero, List.set_cons_succ, e25, e68]
  rw [lMY.out] at hm ⊢
  have P8 := Lib.hid hm
  clear hR hF hm e25 e68
  generalize vs 64 = q64 at *
  generalize vs 65 = q65 at *
  generalize vs 66 = q66 at *
  generalize vs 63 = q63 at *
  generalize vs 67 = q67 at *
  have KB8 := Lib.hid (KB7.out.ab hb)
  have XB8 := Lib.hid (XB7.out.ab hb)
  have YB8 := Lib.hid (YB7.out.ab hb)
  have KI8 := Lib.hid (KI7.out.ab hb)
  have XI8 := Lib.hid (XI7.out.ab hb)
  have YI8 := Lib.hid (YI7.out.ab hb)
  have DI8 := Lib.hid (DI7.out.ab hb)
  have EI8 := Lib.hid (EI7.out.ab hb)
  have UI8 := Lib.hid (UI7.out.ab hb)
  have UH8 := Lib.hid (UH7.out.ab hb)
  have VI8 := Lib.hid (VI7.out.ab hb)
  have VH8 := Lib.hid (VH7.out.ab hb)
  have P78 := Lib.hid (P7.out.ab hb)
  have BB8 := Lib.hid (below_tr BB7.out hb BB7.out.size)
  clear hb KB7 XB7 YB7 KI7 XI7 YI7 DI7 EI7 UI7 UH7 VI7 VH7 P7 BB7
  go_wp2_with fail
  refine wp_wide3 [⟨96, IsR (.slice (some ⟨gA, 0, none⟩) 32 cA), [], false⟩, ⟨97, IsR (.string (strOf D)), [0], false⟩, ⟨98, IsR (.slice (some ⟨gB, 0, none⟩) 32 cB), [], false⟩, ⟨99, IsR (.string (strOf E)), [2], false⟩, ⟨100, IsR (.bool qa), [1, 3], false⟩, ⟨101, IsR (.int .u16 (ga : Int)), [], false⟩, ⟨102, IsR (.int .u16 (gb : Int)), [], false⟩, ⟨103, IsR (.bool qa), [5, 6], false⟩, ⟨104, IsR (.bool true), [4, 7], false⟩, ⟨105, IsR (.bool true), [8], false⟩, ⟨106, IsR (.slice A7 16 c7), [9], false⟩, ⟨107, IsR (.string (strOf mx)), [9, 10], false⟩, ⟨108, IsR (.slice A8 16 c8), [9], false⟩, ⟨109, IsR (.string (strOf my)), [9, 12], false⟩, ⟨110, IsR (.bool qx), [9, 11, 13], false⟩, ⟨111, IsR (.agg (bts x)), [9], false⟩, ⟨112, IsR (.agg (bts y)), [9], false⟩, ⟨113, IsR (.bool qx), [9, 15, 16], false⟩, ⟨114, IsR (.bool true), [9, 14, 17], false⟩, ⟨115, IsR (.bool true), [9, 18], false⟩, ⟨116, IsR (.bool true), [19], false⟩, ⟨117, IsR (.pointer (some ⟨g3, 2, none⟩)), [20], false⟩, ⟨118, IsR (.slice (some ⟨gX, 0, none⟩) 32 cX), [20, 21], false⟩, ⟨119, IsR (.string (strOf wx)), [20, 22], false⟩, ⟨120, IsR (.pointer (some ⟨g5, 2, none⟩)), [20], false⟩, ⟨121, IsR (.slice (some ⟨gY, 0, none⟩) 32 cY), [20, 24], false⟩, ⟨122, IsR (.string (strOf wy)), [20, 25], false⟩, ⟨123, IsR (.bool qx), [20, 23, 26], false⟩, ⟨124, IsR (.agg (bts x)), [20], false⟩, ⟨125, IsR (.agg (bts y)), [20], false⟩, ⟨126, IsR (.bool qx), [20, 28, 29], false⟩, ⟨127, IsR (.bool true), [20, 27, 30], false⟩, ⟨128, IsR (.bool true), [20, 31], false⟩, ⟨129, IsR (.bool true), [32], false⟩, ⟨130, IsR (.bool true), [33], false⟩, ⟨131, IsR (.bool true), [33, 34], false⟩] (by kernel_rfl) (by kernel_rfl) rfl rfl rfl ⟨?_, ?_, ?_, ?_, ?_, ?_, ?_, ?_, ?_, ?_, ?_, ?_, ?_, ?_, ?_, ?_, ?_, ?_, ?_, ?_, ?_, ?_, ?_, ?_, ?_, ?_, ?_, ?_, ?_, ?_, ?_, ?_, ?_, ?_, ?_, ?_, trivial⟩ ?_
  · refine ⟨rfl, IsR.mono _, fun a W hA hb hd => takes_plain rfl (yields_value _ ?_ rfl)⟩
    have h15 : a.tmps[15]?.getD undef = .slice (some ⟨gA, 0, none⟩) 32 cA := (eval_get a 15).trans ((hA.eval (by simp)).trans rfl)
    go_simp
  · refine ⟨rfl, IsR.mono _, fun a W hA hb hd => takes_plain rfl (yields_value _ ?_ rfl)⟩
    have h96 : a.tmps[96]?.getD undef = .slice (some ⟨gA, 0, none⟩) 32 cA := (eval_get a 96).trans (hd 0 (by simp) _ rfl)
    have hst : (convert 27 9 (.slice (some ⟨gA, 0, none⟩) 32 cA)).run Try.prog W = .ok (.string (strOf D)) W := run_str (DI8.out.ab hb) _ _ _ Try.underlying27 Try.underlying5 Try.underlying9
    go_simp
  · refine ⟨rfl, IsR.mono _, fun a W hA hb hd => takes_plain rfl (yields_value _ ?_ rfl)⟩
    have h17 : a.tmps[17]?.getD undef = .slice (some ⟨gB, 0, none⟩) 32 cB := (eval_get a 17).trans ((hA.eval (by simp)).trans rfl)
    go_simp
  · refine ⟨rfl, IsR.mono _, fun a W hA hb hd => takes_plain rfl (yields_value _ ?_ rfl)⟩
    have h98 : a.tmps[98]?.getD undef = .slice (some ⟨gB, 0, none⟩) 32 cB := (eval_get a 98).trans (hd 2 (by simp) _ rfl)
    have hst : (convert 27 9 (.slice (some ⟨gB, 0, none⟩) 32 cB)).run Try.prog W = .ok (.string (strOf E)) W := run_str (EI8.out.ab hb) _ _ _ Try.underlying27 Try.underlying5 Try.underlying9
    go_simp
  · refine ⟨rfl, IsR.mono _, fun a W hA hb hd => takes_plain rfl (yields_value _ ?_ rfl)⟩
    have h97 : a.tmps[97]?.getD undef = .string (strOf D) := (eval_get a 97).trans (hd 1 (by simp) _ rfl)
    have h99 : a.tmps[99]?.getD undef = .string (strOf E) := (eval_get a 99).trans (hd 3 (by simp) _ rfl)
    have hq := QR.out
    go_simp
  · refine ⟨rfl, IsR.mono _, fun a W hA hb hd => takes_plain rfl (yields_value _ ?_ rfl)⟩
    have h1 : a.tmps[1]?.getD undef = .int .u16 (ga : Int) := (eval_get a 1).trans ((hA.eval (by simp)).trans rfl)
    go_simp
  · refine ⟨rfl, IsR.mono _, fun a W hA hb hd => takes_plain rfl (yields_value _ ?_ rfl)⟩
    have h2 : a.tmps[2]?.getD undef = .int .u16 (gb : Int) := (eval_get a 2).trans ((hA.eval (by simp)).trans rfl)
    go_simp
  · refine ⟨rfl, IsR.mono _, fun a W hA hb hd => takes_plain rfl (yields_value _ ?_ rfl)⟩
    have h101 : a.tmps[101]?.getD undef = .int .u16 (ga : Int) := (eval_get a 101).trans (hd 5 (by simp) _ rfl)
    have h102 : a.tmps[102]?.getD undef = .int .u16 (gb : Int) := (eval_get a 102).trans (hd 6 (by simp) _ rfl)
    have hq := QA.out
    go_simp
  · refine ⟨rfl, IsR.mono _, fun a W hA hb hd => takes_plain rfl (yields_value _ ?_ rfl)⟩
    have h100 : a.tmps[100]?.getD undef = .bool qa := (eval_get a 100).trans (hd 4 (by simp) _ rfl)
    have h103 : a.tmps[103]?.getD undef = .bool qa := (eval_get a 103).trans (hd 7 (by simp) _ rfl)
    go_simp
  · refine ⟨rfl, IsR.mono _, fun a W hA hb hd => takes_plain rfl (yields_value _ ?_ rfl)⟩
    have h104 : a.tmps[104]?.getD undef = .bool true := (eval_get a 104).trans (hd 8 (by simp) _ rfl)
    go_simp
  · refine ⟨rfl, IsR.mono _, fun a W hA hb hd => takes_on (i := 9) (d := 105) (b := true) rfl rfl rfl (hd 9 (by simp) _ rfl) (yields_value _ ?_ rfl)⟩
    have h23 : a.tmps[23]?.getD undef = .slice A7 16 c7 := (eval_get a 23).trans ((hA.eval (by simp)).trans rfl)
    go_simp
  · refine ⟨rfl, IsR.mono _, fun a W hA hb hd => takes_on (i := 9) (d := 105) (b := true) rfl rfl rfl (hd 9 (by simp) _ rfl) (yields_value _ ?_ rfl)⟩
    have h106 : a.tmps[106]?.getD undef = .slice A7 16 c7 := (eval_get a 106).trans (hd 10 (by simp) _ rfl)
    have hst : (convert 27 9 (.slice A7 16 c7)).run Try.prog W = .ok (.string (strOf mx)) W := run_str (P78.out.ab hb) _ _ _ Try.underlying27 Try.underlying5 Try.underlying9
    go_simp
  · refine ⟨rfl, IsR.mono _, fun a W hA hb hd => takes_on (i := 9) (d := 105) (b := true) rfl rfl rfl (hd 9 (by simp) _ rfl) (yields_value _ ?_ rfl)⟩
    have h25 : a.tmps[25]?.getD undef = .slice A8 16 c8 := (eval_get a 25).trans ((hA.eval (by simp)).trans rfl)
    go_simp
  · refine ⟨rfl, IsR.mono _, fun a W hA hb hd => takes_on (i := 9) (d := 105) (b := true) rfl rfl rfl (hd 9 (by simp) _ rfl) (yields_value _ ?_ rfl)⟩
    have h108 : a.tmps[108]?.getD undef = .slice A8 16 c8 := (eval_get a 108).trans (hd 12 (by simp) _ rfl)
    have hst : (convert 27 9 (.slice A8 16 c8)).run Try.prog W = .ok (.string (strOf my)) W := run_str (P8.out.ab hb) _ _ _ Try.underlying27 Try.underlying5 Try.underlying9
    go_simp
  · refine ⟨rfl, IsR.mono _, fun a W hA hb hd => takes_on (i := 9) (d := 105) (b := true) rfl rfl rfl (hd 9 (by simp) _ rfl) (yields_value _ ?_ rfl)⟩
    have h107 : a.tmps[107]?.getD undef = .string (strOf mx) := (eval_get a 107).trans (hd 11 (by simp) _ rfl)
    have h109 : a.tmps[109]?.getD undef = .string (strOf my) := (eval_get a 109).trans (hd 13 (by simp) _ rfl)
    have hq := QM.out
    go_simp
  · refine ⟨rfl, IsR.mono _, fun a W hA hb hd => takes_on (i := 9) (d := 105) (b := true) rfl rfl rfl (hd 9 (by simp) _ rfl) ?_⟩
    exact yields_value _ (exec_loadB 26 (.tmp 12) rfl (w.heap.size + 1) (by rw [hA.eval (by simp)]; rfl) (XB8.out.ab hb) Try.underlying26 (by rw [LX.out]; exact sz16)) rfl
  · refine ⟨rfl, IsR.mono _, fun a W hA hb hd => takes_on (i := 9) (d := 105) (b := true) rfl rfl rfl (hd 9 (by simp) _ rfl) ?_⟩
    exact yields_value _ (exec_loadB 26 (.tmp 13) rfl (w.heap.size + 1 + 1) (by rw [hA.eval (by simp)]; rfl) (YB8.out.ab hb) Try.underlying26 (by rw [LY.out]; exact sz16)) rfl
  · refine ⟨rfl, IsR.mono _, fun a W hA hb hd => takes_on (i := 9) (d := 105) (b := true) rfl rfl rfl (hd 9 (by simp) _ rfl) (yields_value _ ?_ rfl)⟩
    have h111 : a.tmps[111]?.getD undef = .agg (bts x) := (eval_get a 111).trans (hd 15 (by simp) _ rfl)
    have h112 : a.tmps[112]?.getD undef = .agg (bts y) := (eval_get a 112).trans (hd 16 (by simp) _ rfl)
    have hq := QX.out W
    go_simp
  · refine ⟨rfl, IsR.mono _, fun a W hA hb hd => takes_on (i := 9) (d := 105) (b := true) rfl rfl rfl (hd 9 (by simp) _ rfl) (yields_value _ ?_ rfl)⟩
    have h110 : a.tmps[110]?.getD undef = .bool qx := (eval_get a 110).trans (hd 14 (by simp) _ rfl)
    have h113 : a.tmps[113]?.getD undef = .bool qx := (eval_get a 113).trans (hd 17 (by simp) _ rfl)
    go_simp
  · refine ⟨rfl, IsR.mono _, fun a W hA hb hd => takes_plain rfl (yields_value _ ?_ rfl)⟩
    have h105 : a.tmps[105]?.getD undef = .bool true := (eval_get a 105).trans (hd 9 (by simp) _ rfl)
    have h114 : a.tmps[114]?.getD undef = .bool true := (eval_get a 114).trans (hd 18 (by simp) _ rfl)
    go_simp
  · refine ⟨rfl, IsR.mono _, fun a W hA hb hd => takes_plain rfl (yields_value _ ?_ rfl)⟩
    have h115 : a.tmps[115]?.getD undef = .bool true := (eval_get a 115).trans (hd 19 (by simp) _ rfl)
    go_simp
  · refine ⟨rfl, IsR.mono _, fun a W hA hb hd => takes_on (i := 20) (d := 116) (b := true) rfl rfl rfl (hd 20 (by simp) _ rfl) (yields_value _ ?_ rfl)⟩
    have h19 : a.tmps[19]?.getD undef = .pointer (some ⟨g3, 0, none⟩) := (eval_get a 19).trans ((hA.eval (by simp)).trans rfl)
    go_simp
  · refine ⟨rfl, IsR.mono _, fun a W hA hb hd => takes_on (i := 20) (d := 116) (b := true) rfl rfl rfl (hd 20 (by simp) _ rfl) (yields_value _ ?_ rfl)⟩
    have h117 : a.tmps[117]?.getD undef = .pointer (some ⟨g3, 2, none⟩) := (eval_get a 117).trans (hd 21 (by simp) _ rfl)
    obtain ⟨x0, x1, x2⟩ := (UH8.out.ab hb).cells
    go_simp
  · refine ⟨rfl, IsR.mono _, fun a W hA hb hd => takes_on (i := 20) (d := 116) (b := true) rfl rfl rfl (hd 20 (by simp) _ rfl) (yields_value _ ?_ rfl)⟩
    have h118 : a.tmps[118]?.getD undef = .slice (some ⟨gX, 0, none⟩) 32 cX := (eval_get a 118).trans (hd 22 (by simp) _ rfl)
    have hst : (convert 27 9 (.slice (some ⟨gX, 0, none⟩) 32 cX)).run Try.prog W = .ok (.string (strOf wx)) W := run_str (UI8.out.ab hb) _ _ _ Try.underlying27 Try.underlying5 Try.underlying9
    go_simp
  · refine ⟨rfl, IsR.mono _, fun a W hA hb hd => takes_on (i := 20) (d := 116) (b := true) rfl rfl rfl (hd 20 (by simp) _ rfl) (yields_value _ ?_ rfl)⟩
    have h21 : a.tmps[21]?.getD undef = .pointer (some ⟨g5, 0, none⟩) := (eval_get a 21).trans ((hA.eval (by simp)).trans rfl)
    go_simp
  · refine ⟨rfl, IsR.mono _, fun a W hA hb hd => takes_on (i := 20) (d := 116) (b := true) rfl rfl rfl (hd 20 (by simp) _ rfl) (yields_value _ ?_ rfl)⟩
    have h120 : a.tmps[120]?.getD undef = .pointer (some ⟨g5, 2, none⟩) := (eval_get a 120).trans (hd 24 (by simp) _ rfl)
    obtain ⟨x0, x1, x2⟩ := (VH8.out.ab hb).cells
    go_simp
  · refine ⟨rfl, IsR.mono _, fun a W hA hb hd => takes_on (i := 20) (d := 116) (b := true) rfl rfl rfl (hd 20 (by simp) _ rfl) (yields_value _ ?_ rfl)⟩
    have h121 : a.tmps[121]?.getD undef = .slice (some ⟨gY, 0, none⟩) 32 cY := (eval_get a 121).trans (hd 25 (by simp) _ rfl)
    have hst : (convert 27 9 (.slice (some ⟨gY, 0, none⟩) 32 cY)).run Try.prog W = .ok (.string (strOf wy)) W := run_str (VI8.out.ab hb) _ _ _ Try.underlying27 Try.underlying5 Try.underlying9
    go_simp
  · refine ⟨rfl, IsR.mono _, fun a W hA hb hd => takes_on (i := 20) (d := 116) (b := true) rfl rfl rfl (hd 20 (by simp) _ rfl) (yields_value _ ?_ rfl)⟩
    have h119 : a.tmps[119]?.getD undef = .string (strOf wx) := (eval_get a 119).trans (hd 23 (by simp) _ rfl)
    have h122 : a.tmps[122]?.getD undef = .string (strOf wy) := (eval_get a 122).trans (hd 26 (by simp) _ rfl)
    have hq := QW.out
    go_simp
  · refine ⟨rfl, IsR.mono _, fun a W hA hb hd => takes_on (i := 20) (d := 116) (b := true) rfl rfl rfl (hd 20 (by simp) _ rfl) ?_⟩
    exact yields_value _ (exec_loadB 26 (.tmp 12) rfl (w.heap.size + 1) (by rw [hA.eval (by simp)]; rfl) (XB8.out.ab hb) Try.underlying26 (by rw [LX.out]; exact sz16)) rfl
  · refine ⟨rfl, IsR.mono _, fun a W hA hb hd => takes_on (i := 20) (d := 116) (b := true) rfl rfl rfl (hd 20 (by simp) _ rfl) ?_⟩
    exact yields_value _ (exec_loadB 26 (.tmp 13) rfl (w.heap.size + 1 + 1) (by rw [hA.eval (by simp)]; rfl) (YB8.out.ab hb) Try.underlying26 (by rw [LY.out]; exact sz16)) rfl
  · refine ⟨rfl, IsR.mono _, fun a W hA hb hd => takes_on (i := 20) (d := 116) (b := true) rfl rfl rfl (hd 20 (by simp) _ rfl) (yields_value _ ?_ rfl)⟩
    have h124 : a.tmps[124]?.getD undef = .agg (bts x) := (eval_get a 124).trans (hd 28 (by simp) _ rfl)
    have h125 : a.tmps[125]?.getD undef = .agg (bts y) := (eval_get a 125).trans (hd 29 (by simp) _ rfl)
    have hq := QX.out W
    go_simp
  · refine ⟨rfl, IsR.mono _, fun a W hA hb hd => takes_on (i := 20) (d := 116) (b := true) rfl rfl rfl (hd 20 (by simp) _ rfl) (yields_value _ ?_ rfl)⟩
    have h123 : a.tmps[123]?.getD undef = .bool qx := (eval_get a 123).trans (hd 27 (by simp) _ rfl)
    have h126 : a.tmps[126]?.getD undef = .bool qx := (eval_get a 126).trans (hd 30 (by simp) _ rfl)
    go_simp
  · refine ⟨rfl, IsR.mono _, fun a W hA hb hd => takes_plain rfl (yields_value _ ?_ rfl)⟩
    have h116 : a.tmps[116]?.getD undef = .bool true := (eval_get a 116).trans (hd 20 (by simp) _ rfl)
    have h127 : a.tmps[127]?.getD undef = .bool true := (eval_get a 127).trans (hd 31 (by simp) _ rfl)
    go_simp
  · refine ⟨rfl, IsR.mono _, fun a W hA hb hd => takes_plain rfl (yields_value _ ?_ rfl)⟩
    have h128 : a.tmps[128]?.getD undef = .bool true := (eval_get a 128).trans (hd 32 (by simp) _ rfl)
    go_simp
  · refine ⟨rfl, IsR.mono _, fun a W hA hb hd => takes_on (i := 33) (d := 129) (b := true) rfl rfl rfl (hd 33 (by simp) _ rfl) ?_⟩
    refine yields_call 21 #[] (by go_simp) ((known22_any W).mono ?_)
    rintro e W1 ⟨rfl, hb1⟩
    exact ⟨_, rfl, rfl, hb1⟩
  · refine ⟨rfl, IsR.mono _, fun a W hA hb hd => takes_plain rfl (yields_value _ ?_ rfl)⟩
    have h129 : a.tmps[129]?.getD undef = .bool true := (eval_get a 129).trans (hd 33 (by simp) _ rfl)
    have h130 : a.tmps[130]?.getD undef = .bool true := (eval_get a 130).trans (hd 34 (by simp) _ rfl)
    go_simp
  intro vs w9 hR hF hb
  have e131 : vs 131 = .bool true := hR 35 _ rfl
  simp only [List.map_cons, List.map_nil, List.foldl_cons, List.foldl_nil, List.length_cons, List.length_nil, List.drop_succ_cons, List.drop_zero, Act.put, List.setIfInBounds_toArray, List.set_cons_zero, List.set_cons_succ, e131]
  have B9 := Lib.hid (below_tr BB8.out hb BB8.out.size)
  clear hR hF hb e131
  generalize vs 96 = q96 at *
  generalize vs 97 = q97 at *
  generalize vs 98 = q98 at *
  generalize vs 99 = q99 at *
  generalize vs 100 = q100 at *
  generalize vs 101 = q101 at *
  generalize vs 102 = q102 at *
  generalize vs 103 = q103 at *
  generalize vs 104 = q104 at *
  generalize vs 105 = q105 at *
  generalize vs 106 = q106 at *
  generalize vs 107 = q107 at *
  generalize vs 108 = q108 at *
  generalize vs 109 = q109 at *
  generalize vs 110 = q110 at *
  generalize vs 111 = q111 at *
  generalize vs 112 = q112 at *
  generalize vs 113 = q113 at *
  generalize vs 114 = q114 at *
  generalize vs 115 = q115 at *
  generalize vs 116 = q116 at *
  generalize vs 117 = q117 at *
  generalize vs 118 = q118 at *
  generalize vs 119 = q119 at *
  generalize vs 120 = q120 at *
  generalize vs 121 = q121 at *
  generalize vs 122 = q122 at *
  generalize vs 123 = q123 at *
  generalize vs 124 = q124 at *
  generalize vs 125 = q125 at *
  generalize vs 126 = q126 at *
  generalize vs 127 = q127 at *
  generalize vs 128 = q128 at *
  generalize vs 129 = q129 at *
  generalize vs 130 = q130 at *
  go_wp2_with fail
  go_ret
  exact ⟨rfl, B9.out⟩
set_option maxRecDepth 100000 in
theorem hapart_walk (v0 : Value) (za zb zt zc : Int) (v5 v6 : Value) (w : World)
    (hk : ∃ base, Value.okWide Try.prog w .any base 22 v0) {H : Type} {enc : TypeId × Value → H} {d : DataW H} {p : List MemPlace} (_ : DataW.Trod enc Try.prog w 0 (fun _ => true) true 22 v0 d p) (_ : ∀ x ∈ p, x.block < w.heap.size)
    (h1 : (Lit.int .u16 za).wf = true) (h2 : (Lit.int .u16 zb).wf = true) (h3 : (Lit.int .u32 zt).wf = true) (h4 : (Lit.int .u64 zc).wf = true)
    (hx : ∃ base, Value.okWide Try.prog w .any base 26 v5) {d' : DataW H} {p' : List MemPlace} (_ : DataW.Trod enc Try.prog w 0 (fun _ => true) true 26 v5 d' p') (_ : ∀ x ∈ p', x.block < w.heap.size)
    (hy : ∃ base, Value.okWide Try.prog w .any base 26 v6) {d2 : DataW H} {p2 : List MemPlace} (_ : DataW.Trod enc Try.prog w 0 (fun _ => true) true 26 v6 d2 p2) (_ : ∀ x ∈ p2, x.block < w.heap.size) :
    Calls Try.prog 3 #[v0, .int .u16 za, .int .u16 zb, .int .u32 zt, .int .u64 zc, v5, v6] w fun e w' => e = .returned (.bool true) ∧ Below w.heap.size w w' := by
  obtain ⟨_, hk⟩ := hk
  obtain ⟨_, hx⟩ := hx
  obtain ⟨_, hy⟩ := hy
  obtain ⟨key, rfl, bk, lk⟩ := okWide_bytes (ts := List.replicate 32 5) Try.underlying22 Try.underlying5 (by kernel_rfl) (by kernel_rfl) (fun u hu => List.eq_of_mem_replicate hu) hk
  obtain ⟨x, rfl, bx, lx⟩ := okWide_bytes (ts := List.replicate 16 5) Try.underlying26 Try.underlying5 (by kernel_rfl) (by kernel_rfl) (fun u hu => List.eq_of_mem_replicate hu) hx
  obtain ⟨y, rfl, by', ly⟩ := okWide_bytes (ts := List.replicate 16 5) Try.underlying26 Try.underlying5 (by kernel_rfl) (by kernel_rfl) (fun u hu => List.eq_of_mem_replicate hu) hy
  obtain ⟨ga, rfl, ha⟩ := nat_wf16 h1
  obtain ⟨gb, rfl, hbb⟩ := nat_wf16 h2
  obtain ⟨ten, rfl, ht⟩ := nat_wf32 h3
  obtain ⟨cm, rfl, hc⟩ := nat_wf64 h4
  exact hapart_any key x y ga gb ten cm w bk lk bx lx by' ly ha hbb ht hc
end Go.Proofs.Ytgnooakjkpkgiaa
