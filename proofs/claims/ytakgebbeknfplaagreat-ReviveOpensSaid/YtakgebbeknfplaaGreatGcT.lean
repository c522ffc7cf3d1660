/-
  WALKS: gcm.opens, gcm.tag, gcm.Seal, gcm.Open.
-/
import Derived.Test.YtakgebbeknfplaaGreatGhU
import Derived.Test.YtakgebbeknfplaaGreatWid3
import Derived.Test.YtakgebbeknfplaaGreatCtL
import Derived.ArgAppend
namespace Go.Proofs.YtakgebbeknfplaaGreat
open Go.RowKit
set_option linter.unusedVariables false

/-- an append that finds no room: what it hands back is the call's own -/
theorem wpList_appGrow {P : Program} {w : World} {ops : Array Oper} {rest : List Oper} {o : Oper} {a : Act} {Q : Exit → Act → World → Prop} (hgd : o.guard = none) (s x : Operand) {t : TypeId}
    (ho : o.op = .call { callee := .builtin .append, args := #[s, x], argTypes := #[t, t] })
    {i : TypeInfo} {z : Value} (ht : P.underlying t = some (.slice 5)) (hi : P.info? 5 = some i) (hz : i.zero = some z) (hsize : i.size = 1) (hby : i.bytes = 1) (hzs : z.cells.size = 1)
    {A : Option Addr} {n c : Nat} {la : List Nat} (ha : IsB w A n c la) (hs : a.eval s = .slice A n c) {X : Addr} {m d : Nat} {lx : List Nat} (hx : IsB w (some X) m d lx) (he : a.eval x = .slice (some X) m d)
    (hnone : A = none → n = 0 ∧ c = 0) (hfull : c < n + m) (hm : n + m ≤ 140737488355328)
    (h : ∀ v' w', OwB w' w.heap.size v' (la ++ lx) → Below w.heap.size w w' → wpList P ops Q rest (a.put o.dst v') w') : wpList P ops Q (o :: rest) a w := by
  have l1 := ha.len
  have l2 := hx.len
  refine wpList_append_grows w hgd s x t ho 5 i z 1 1 ht hi hz hsize hby hzs (by decide) A n c (bvals la) hs hnone (by simp [bvals, l1]) (fun b hb j u hj => ?_) X m d (bvals lx) he (by simp [bvals, l2]) (fun j u hj => ?_) (fun u hu => ?_) hfull (by simp only [maxLen]; omega) (by omega) (fun v' w' hown hg => ?_)
  · subst hb
    have hj' : j < n := by
      rcases Nat.lt_or_ge j n with h | h
      · exact h
      · rw [List.getElem?_eq_none (by simp [bvals]; omega)] at hj; cases hj
    obtain ⟨y, e, _, hy⟩ := ha.cell (by omega)
    injection e with e
    subst e
    rw [hy j hj', ← hj]
    simp [bvals, at', List.getElem?_eq_getElem (show j < la.length by omega)]
  · have hj' : j < m := by
      rcases Nat.lt_or_ge j m with h | h
      · exact h
      · rw [List.getElem?_eq_none (by simp [bvals]; omega)] at hj; cases hj
    obtain ⟨y, e, _, hy⟩ := hx.cell (by omega)
    injection e with e
    subst e
    rw [hy j hj', ← hj]
    simp [bvals, at', List.getElem?_eq_getElem (show j < lx.length by omega)]
  · obtain ⟨y, _, rfl⟩ := List.mem_map.1 hu
    rfl
  · refine h v' w' ⟨?_, byt_app ha.2 hx.2⟩ ⟨hg.os, hg.tape, hg.output, hg.size, fun k hk => hg.block k hk (by simp)⟩
    rw [List.length_append, l1, l2]
    have e : bvals la ++ bvals lx = bvals (la ++ lx) := by simp [bvals]
    rw [← e]
    exact hown

set_option maxRecDepth 100000 in
set_option maxHeartbeats 1000000 in
theorem gopens_any (kA nA : Option Addr) (kn kc nn nc : Nat) (key nonce : List Nat) (w : World) (lk : key.length = kn) (ln : nonce.length = nn) :
    Calls Tryz.prog 226 #[.slice kA kn kc, .slice nA nn nc] w fun e w' => e = .returned (.int .i64 (if GOk key nonce then 0 else 2)) ∧ w = w' := by
  by_cases h16 : kn = 16
  · by_cases h12 : nn = 12
    · rw [if_pos ⟨.inl (by omega), by omega⟩]
      subst h16 h12
      go_enter Tryz.func226, Tryz.ntmps226
      go_wp2_with fail
      go_ret
      exact ⟨rfl, rfl⟩
    · rw [if_neg (fun h => h12 (by rw [← ln]; exact h.2))]
      have h1 : ((nn : Int) != 12) = true := by simp; omega
      subst h16
      clear h12 lk ln
      go_enter Tryz.func226, Tryz.ntmps226
      go_wp2_with fail
      go_ret
      exact ⟨rfl, rfl⟩
  · have hk : ((kn : Int) != 16) = true := by simp; omega
    by_cases h32 : kn = 32
    · by_cases h12 : nn = 12
      · rw [if_pos ⟨.inr (by omega), by omega⟩]
        subst h32 h12
        go_enter Tryz.func226, Tryz.ntmps226
        go_wp2_with fail
        go_ret
        exact ⟨rfl, rfl⟩
      · rw [if_neg (fun h => h12 (by rw [← ln]; exact h.2))]
        have h1 : ((nn : Int) != 12) = true := by simp; omega
        subst h32
        clear h12 lk ln
        go_enter Tryz.func226, Tryz.ntmps226
        go_wp2_with fail
        go_ret
        exact ⟨rfl, rfl⟩
    · have hk2 : ((kn : Int) != 32) = true := by simp; omega
      rw [if_neg (fun h => by have := h.1; omega)]
      clear h16 h32 lk ln
      go_enter Tryz.func226, Tryz.ntmps226
      go_wp2_with fail
      go_ret
      exact ⟨rfl, rfl⟩

/-- bytes of the call's own, in a tuple with an error's number -/
def TupB (B err : Nat) (l : List Nat) (v : Value) (W : World) : Prop := ∃ v0, v = .tuple #[v0, .int .i64 (err : Int)] ∧ OwB W B v0 l
theorem TupB.mono (B err : Nat) (l : List Nat) : Mono (TupB B err l) := fun v W W' ⟨v0, h1, h2⟩ hb => ⟨v0, h1, h2.ab hb⟩
def OwR (B : Nat) (l : List Nat) (v : Value) (W : World) : Prop := OwB W B v l
theorem OwR.mono (B : Nat) (l : List Nat) : Mono (OwR B l) := fun v W W' h hb => h.ab hb
theorem OwB.lower {w : World} {B B' : Nat} {v : Value} {l : List Nat} (h : OwB w B v l) (hb : B' ≤ B) : OwB w B' v l := by
  refine ⟨⟨h.own.1, ?_⟩, h.byt⟩
  rcases h.own.2 with hn | ⟨g, cap, cur, e, hb', rest⟩
  · exact .inl hn
  · exact .inr ⟨g, cap, cur, e, Nat.le_trans hb hb', rest⟩
theorem eval_got (a : Act) (t : Nat) : a.tmps[t]?.getD undef = a.eval (.tmp t) := by simp [Act.eval]
set_option maxRecDepth 100000 in
set_option maxHeartbeats 4000000 in
theorem gtag_any (kA nA aA bA : Option Addr) (kn kc nc an ac bn bc : Nat) (key nonce aad b : List Nat) (w : World) (hK : KeyOk key) (ik : IsB w kA kn kc key) (inn : IsB w nA 12 nc nonce) (ia : IsB w aA an ac aad) (ib : IsB w bA bn bc b) (ha : an ≤ 1000000) (hb : bn ≤ 1000000) :
    Calls Tryz.prog 227 #[.slice kA kn kc, .slice nA 12 nc, .slice aA an ac, .slice bA bn bc] w (OutB w (tagA key nonce aad b) 0) := by
  have lk := ik.len
  have hnew := new_any (key.length / 4) kn key kA kc w hK.four (by rw [← lk]; exact hK.len) ik
  have lf : (firstC nonce).length = 16 := firstC_len inn.len
  have bf : Byt (firstC nonce) := firstC_byt inn.2
  have henc := fun (x : List Nat) (hx : Byt x) (lx : x.length = 16) b g W (hC : CipK W b g (key.length / 4) key) => encC_any b g (key.length / 4) key x W hK.four hK.len ik.2 hx lx hC
  have le := fun x => encA_len key x
  have be := fun x (hx : Byt x) => encA_byt hK ik.2 hx
  have htag : tagA key nonce aad b = xorL (sumB (encA key z16) aad b) (encA key (firstC nonce)) := rfl
  rw [htag]
  have henc2 : ∀ (x : List Nat) (hx : Byt x) (lx : x.length = 16) b g W (hC : CipK W b g (key.length / 4) key), Calls Tryz.prog 262 #[.pointer (some ⟨g, 0, none⟩), .agg (bts x)] W fun e w' => e = .returned (.tuple #[.agg (bts (encA key x)), .int .i64 0]) ∧ Below W.heap.size W w' := henc
  have HN := Lib.hid hnew
  have LF := Lib.hid lf
  have BF := Lib.hid bf
  have HE := Lib.hid henc2
  have LE := Lib.hid le
  have BE := Lib.hid be
  have IN := Lib.hid inn
  have IA := Lib.hid ia
  have IB := Lib.hid ib
  have HA := Lib.hid ha
  have HB := Lib.hid hb
  clear hnew lf bf henc henc2 le be inn ia ib ha hb htag lk ik hK
  generalize hF : firstC nonce = F at *
  have HF := Lib.hid hF
  clear hF
  go_enter Tryz.func227, Tryz.ntmps227
  go_wp2_with fail
  refine HN.out.mono ?_
  rintro e w1 ⟨b', g, rfl, hbg, hwb, hC, hb1⟩
  have C1 := Lib.hid hC
  have B1 := Lib.hid hb1
  clear hC hb1 hbg hwb HN
  go_wp2_with fail
  refine (first_any nA nc nonce w1 (IN.out.ab B1.out)).mono ?_
  rintro e w2 ⟨rfl, hb2⟩
  rw [HF.out]
  have C2 := Lib.hid (C1.out.ab hb2)
  have B2 := Lib.hid (below_tr B1.out hb2 B1.out.size)
  clear hb2 C1 B1
  go_wp2_with (refine wpList_storeN (l := z16) (o := ⟨none, .store _ (.tmp 12) (.tmp 29), _, _, _, _⟩) rfl 365 (.tmp 12) (.tmp 29) rfl w2.heap.size rfl F rfl (t := 365) ?_ (by rw [LF.out]; exact sz16) (by rw [LF.out]; rfl) ?_
               · exact Bk.newAt _ z16 rfl
               intro w3 hw3
               have F3 : Hid (Bk w3 w2.heap.size 365 F) := Lib.hid (by rw [hw3]; exact (show Bk (w2.alloc (.cells (bts z16) 365)) w2.heap.size 365 z16 from Bk.newAt _ z16 rfl).row _)
               have B3 : Hid (Below w.heap.size w w3) := Lib.hid (by rw [hw3]; exact Below.row (B2.out.alloc B2.out.size _) B2.out.size _)
               have C3 : Hid (CipK w3 b' g (key.length / 4) key) := Lib.hid (by
                 rw [hw3]
                 have hlt := C2.out.cip.lt
                 have hlb := C2.out.wd.lt
                 exact (C2.out.ab ((Below.refl _ _).alloc (Nat.le_refl _) _)).rowFar (by omega) (by omega) _)
               clear hw3)
  have E0B := BE.out z16 z16_byt
  have E0L := LE.out z16
  have E1B := BE.out F BF.out
  have E1L := LE.out F
  have HEN0 := Lib.hid (fun W h => HE.out z16 z16_byt rfl b' g W h)
  have HEN1 := Lib.hid (fun W h => HE.out F BF.out LF.out b' g W h)
  generalize encA key z16 = E0 at *
  generalize encA key F = E1 at *
  have HE0 := Lib.hid E0B
  have HL0 := Lib.hid E0L
  have HE1 := Lib.hid E1B
  have HL1 := Lib.hid E1L
  clear E0B E0L E1B E1L HE LE BE BF B2 C2
  refine (HEN0.out w3 C3.out).mono ?_
  rintro e w4 ⟨rfl, hb4⟩
  have F4 := Lib.hid (F3.out.ab hb4)
  have B4 := Lib.hid (below_tr B3.out hb4 B3.out.size)
  have C4 := Lib.hid (C3.out.ab hb4)
  clear hb4 F3 B3 C3 HEN0
  generalize w2.heap.size = gF at *
  go_wp2_with (first
    | ((with_reducible refine wpList_storeN (l := z16) (o := ⟨none, .store _ (.tmp 13) (.tmp 38), _, _, _, _⟩) rfl 365 (.tmp 13) (.tmp 38) ?_ w4.heap.size ?_ E0 ?_ (t := 365) ?_ ?_ ?_ ?_)
       · rfl
       · rfl
       · rfl
       · exact Bk.newAt _ z16 rfl
       · (rw [HL0.out]; exact sz16)
       · (rw [HL0.out]; rfl)
       intro w5 hw5
       have G5 : Hid (Bk w5 w4.heap.size 365 E0) := Lib.hid (by rw [hw5]; exact (show Bk (w4.alloc (.cells (bts z16) 365)) w4.heap.size 365 z16 from Bk.newAt _ z16 rfl).row _)
       have F5 : Hid (Bk w5 gF 365 F) := Lib.hid (by rw [hw5]; exact (F4.out.alloc _).rowFar (by have := F4.out.lt; omega) _)
       have B5 : Hid (Below w.heap.size w w5) := Lib.hid (by rw [hw5]; exact Below.row (B4.out.alloc B4.out.size _) B4.out.size _)
       have C5 : Hid (CipK w5 b' g (key.length / 4) key) := Lib.hid (by
         rw [hw5]
         have hlt := C4.out.cip.lt
         have hlb := C4.out.wd.lt
         exact (C4.out.ab ((Below.refl _ _).alloc (Nat.le_refl _) _)).rowFar (by omega) (by omega) _)
       clear hw5)
    | (refine wpList_loadB (l := F) (o := ⟨some 42, _, _, _, _, _⟩) rfl 365 (.tmp 12) rfl gF rfl (t := 365) ?_ Tryz.underlying365 (by rw [LF.out]; exact sz16) ?_
       · exact F5.out))
  refine (HEN1.out w5 C5.out).mono ?_
  rintro e w6 ⟨rfl, hb6⟩
  have G6 := Lib.hid (G5.out.ab hb6)
  have B6 := Lib.hid (below_tr B5.out hb6 B5.out.size)
  clear hb6 F5 B5 C5 HEN1 F4 B4 C4 G5
  generalize w4.heap.size = g0 at *
  go_wp2_with (first
    | ((with_reducible refine wpList_storeN (l := z16) (o := ⟨none, .store _ (.tmp 15) (.tmp 44), _, _, _, _⟩) rfl 365 (.tmp 15) (.tmp 44) ?_ w6.heap.size ?_ E1 ?_ (t := 365) ?_ ?_ ?_ ?_)
       · rfl
       · rfl
       · rfl
       · exact Bk.newAt _ z16 rfl
       · (rw [HL1.out]; exact sz16)
       · (rw [HL1.out]; rfl)
       intro w7 hw7
       have M7 : Hid (Bk w7 w6.heap.size 365 E1) := Lib.hid (by rw [hw7]; exact (show Bk (w6.alloc (.cells (bts z16) 365)) w6.heap.size 365 z16 from Bk.newAt _ z16 rfl).row _)
       have G7 : Hid (Bk w7 g0 365 E0) := Lib.hid (by rw [hw7]; exact (G6.out.alloc _).rowFar (by have := G6.out.lt; omega) _)
       have B7 : Hid (Below w.heap.size w w7) := Lib.hid (by rw [hw7]; exact Below.row (B6.out.alloc B6.out.size _) B6.out.size _)
       clear hw7)
    | (refine wpList_loadB (l := E0) (o := ⟨some 46, _, _, _, _, _⟩) rfl 365 (.tmp 13) rfl g0 rfl (t := 365) ?_ Tryz.underlying365 (by rw [HL0.out]; exact sz16) ?_
       · exact G7.out))
  refine (gsum_any E0 aA bA an ac bn bc aad b w7 HE0.out HL0.out (IA.out.ab B7.out) (IB.out.ab B7.out) (by have := HA.out; omega) (by have := HB.out; omega)).mono ?_
  rintro e w8 ⟨rfl, hb8⟩
  have SB := sumB_byt E0 aad b
  have SL := sumB_len E0 aad b
  generalize sumB E0 aad b = S at *
  have HSB := Lib.hid SB
  have HSL := Lib.hid SL
  have M8 := Lib.hid (M7.out.ab hb8)
  have B8 := Lib.hid (below_tr B7.out hb8 B7.out.size)
  clear hb8 M7 G7 B7 G6 B6 SB SL
  generalize w6.heap.size = g1 at *
  go_wp2_with ((with_reducible refine wpList_storeN (l := z16) (o := ⟨none, .store _ (.tmp 17) (.tmp 49), _, _, _, _⟩) rfl 365 (.tmp 17) (.tmp 49) ?_ w8.heap.size ?_ S ?_ (t := 365) ?_ ?_ ?_ ?_)
               · rfl
               · rfl
               · rfl
               · exact Bk.newAt _ z16 rfl
               · (rw [HSL.out]; exact sz16)
               · (rw [HSL.out]; rfl)
               intro w9 hw9
               have S9 : Hid (Bk w9 w8.heap.size 365 S) := Lib.hid (by rw [hw9]; exact (show Bk (w8.alloc (.cells (bts z16) 365)) w8.heap.size 365 z16 from Bk.newAt _ z16 rfl).row _)
               have M9 : Hid (Bk w9 g1 365 E1) := Lib.hid (by rw [hw9]; exact (M8.out.alloc _).rowFar (by have := M8.out.lt; omega) _)
               have B9 : Hid (Below w.heap.size w w9) := Lib.hid (by rw [hw9]; exact Below.row (B8.out.alloc B8.out.size _) B8.out.size _)
               clear hw9)
  have I0 := Lib.hid (isB_whole S9.out HSB.out HSL.out (by decide : 16 ≤ 9223372036854775807))
  have I1 := Lib.hid (isB_whole M9.out HE1.out HL1.out (by decide : 16 ≤ 9223372036854775807))
  clear S9 M9 M8 B8
  generalize w8.heap.size = g2 at *
  refine wp_free2 [⟨50, IsR (.slice (some ⟨g2, 0, none⟩) 16 16), [], false⟩, ⟨51, IsR (.slice (some ⟨g1, 0, none⟩) 16 16), [], false⟩, ⟨52, TupB w9.heap.size 0 (xorL S E1), [0, 1], false⟩, ⟨53, OwR w9.heap.size (xorL S E1), [2], false⟩, ⟨54, IsR (.int .i64 0), [2], false⟩] (by kernel_rfl) (by kernel_rfl) rfl rfl rfl ⟨?_, ?_, ?_, ?_, ?_, trivial⟩ ?_
  · refine ⟨rfl, rfl, IsR.mono _, fun a W hA hb hd => yields_value _ ?_ rfl⟩
    have h0 : a.tmps[17]?.getD undef = .pointer (some ⟨g2, 0, none⟩) := (eval_got a 17).trans ((hA.eval (by simp)).trans rfl)
    go_simp
  · refine ⟨rfl, rfl, IsR.mono _, fun a W hA hb hd => yields_value _ ?_ rfl⟩
    have h0 : a.tmps[15]?.getD undef = .pointer (some ⟨g1, 0, none⟩) := (eval_got a 15).trans ((hA.eval (by simp)).trans rfl)
    go_simp
  · refine ⟨rfl, rfl, TupB.mono _ _ _, fun a W hA hb hd => ?_⟩
    have h0 : a.tmps[50]?.getD undef = .slice (some ⟨g2, 0, none⟩) 16 16 := (eval_got a 50).trans (hd 0 (by simp) _ rfl)
    have h1 : a.tmps[51]?.getD undef = .slice (some ⟨g1, 0, none⟩) 16 16 := (eval_got a 51).trans (hd 1 (by simp) _ rfl)
    refine yields_call 264 #[.slice (some ⟨g2, 0, none⟩) 16 16, .slice (some ⟨g1, 0, none⟩) 16 16] (by go_simp) ((xor_any _ _ 16 16 16 S E1 W (I0.out.ab hb) (I1.out.ab hb) (by decide)).mono ?_)
    rintro e W' ⟨v, rfl, hv, hb'⟩
    exact ⟨_, rfl, ⟨v, rfl, hv.lower hb.size⟩, hb'⟩
  · refine ⟨rfl, rfl, OwR.mono _ _, fun a W hA hb hd => ?_⟩
    obtain ⟨v0, e0, ho⟩ := hd 2 (by simp) _ rfl
    have h0 : a.tmps[52]?.getD undef = .tuple #[v0, .int .i64 ((0 : Nat) : Int)] := (eval_got a 52).trans e0
    refine yields_value v0 ?_ ho
    go_simp
  · refine ⟨rfl, rfl, IsR.mono _, fun a W hA hb hd => ?_⟩
    obtain ⟨v0, e0, ho⟩ := hd 2 (by simp) _ rfl
    have h0 : a.tmps[52]?.getD undef = .tuple #[v0, .int .i64 ((0 : Nat) : Int)] := (eval_got a 52).trans e0
    refine yields_value _ ?_ rfl
    go_simp
  · intro vs W hR hF hb
    have e54 : vs 54 = .int .i64 0 := hR 4 _ rfl
    have h53 : OwB W w9.heap.size (vs 53) (xorL S E1) := hR 3 _ rfl
    simp only [List.map_cons, List.map_nil, List.foldl_cons, List.foldl_nil, List.length_cons, List.length_nil, List.drop_succ_cons, List.drop_zero, Act.put, List.setIfInBounds_toArray, List.set_cons_zero, List.set_cons_succ, e54]
    have H53 := Lib.hid (h53.lower B9.out.size)
    have BW := Lib.hid (below_tr B9.out hb B9.out.size)
    clear hR hF hb h53 e54
    go_wp2_with fail
    go_ret2
    exact ⟨_, rfl, H53.out, BW.out⟩

theorem add_zero' (A : Option Addr) : A.map (·.add 0) = A := by
  cases A with
  | none => rfl
  | some x => simp [Addr.add]
theorem sl_size (W : World) : (sizeOf (Tryz.prog.elem 22)).run Tryz.prog W = .ok 1 W := by
  have h : (Tryz.prog.info? (Tryz.prog.elem 22)).map (·.size) = some 1 := by kernel_rfl
  cases hq : Tryz.prog.info? (Tryz.prog.elem 22) with
  | none => rw [hq] at h; cases h
  | some i => rw [hq] at h; simp only [Option.map_some, Option.some.injEq] at h; simp [sizeOf, typeInfo, hq, h]
/-- s[:m] of bytes -/
theorem sl_upto (W : World) (A : Option Addr) (n c m : Nat) (hm : m ≤ c) : (Instr.sliceAt 22 (.slice A n c) none (some (.int .i64 (m : Int))) none).run Tryz.prog W = .ok (.slice A m c) W := by
  have h : Tryz.prog.underlying 22 = some (.slice (Tryz.prog.elem 22)) := by kernel_rfl
  rw [run_sliceAt_slice W _ _ _ _ _ h, run_slice_h W _ _ _ _ h .i64 (m : Int) (by omega) (by omega), sl_size]
  simp only [Result.andThen_ok, sliced, Nat.zero_mul, Int.toNat_natCast, Nat.sub_zero, add_zero', ite_self]
/-- s[:m:m] of bytes -/
theorem sl_clip (W : World) (A : Option Addr) (n c m : Nat) (hm : m ≤ c) : (Instr.sliceAt 22 (.slice A n c) none (some (.int .i64 (m : Int))) (some (.int .i64 (m : Int)))).run Tryz.prog W = .ok (.slice A m m) W := by
  have h : Tryz.prog.underlying 22 = some (.slice (Tryz.prog.elem 22)) := by kernel_rfl
  rw [run_sliceAt_slice W _ _ _ _ _ h, run_slice_hm W _ _ _ _ h .i64 .i64 (m : Int) (m : Int) (by omega) (by omega) (by omega), sl_size]
  simp only [Result.andThen_ok, sliced, Nat.zero_mul, Int.toNat_natCast, Nat.sub_zero, add_zero', ite_self]
theorem IsB.clip {w : World} {A : Option Addr} {n c : Nat} {l : List Nat} (h : IsB w A n c l) : IsB w A n n l := by
  refine ⟨⟨h.1.1, Nat.le_refl _, Nat.le_trans h.1.2.1 h.1.2.2.1, h.1.2.2.2.1, ?_⟩, h.2⟩
  rcases h.1.2.2.2.2 with ⟨h1, h2⟩ | ⟨x, h1, h2, h3⟩
  · exact .inl ⟨h1, by have := h.1.2.1; omega⟩
  · exact .inr ⟨x, h1, fun h0 => h2 (by have := h.1.2.1; omega), h3⟩
theorem IsB.none {w : World} {n c : Nat} {l : List Nat} (h : IsB w none n c l) : n = 0 ∧ c = 0 := by
  rcases h.1.2.2.2.2 with ⟨h1, h2⟩ | ⟨x, h1, _⟩
  · exact ⟨by have := h.1.2.1; omega, h2⟩
  · cases h1
theorem gok_key {key nonce : List Nat} (h : GOk key nonce) : KeyOk key := h.1
set_option maxRecDepth 100000 in
set_option maxHeartbeats 2000000 in
theorem gseal_ok (kA nA aA tA : Option Addr) (kn kc nn nc an ac tn tc : Nat) (key nonce aad text : List Nat) (w : World) (hG : GOk key nonce) (ik : IsB w kA kn kc key) (inn : IsB w nA nn nc nonce) (ia : IsB w aA an ac aad) (it : IsB w tA tn tc text) (ha : an ≤ 65536) (ht : tn ≤ 65536) :
    Calls Tryz.prog 231 #[.slice kA kn kc, .slice nA nn nc, .slice aA an ac, .slice tA tn tc] w (OutB w (sealA key nonce aad text) 0) := by
  obtain ⟨i0, hi0, hz0, hz1, hz2⟩ := info_parts infoU8
  have lk := ik.len
  have ln := inn.len
  have lt := it.len
  obtain rfl : nn = 12 := by rw [← ln]; exact hG.2
  have hop := gopens_any kA nA kn kc 12 nc key nonce w lk ln
  rw [if_pos hG] at hop
  have hcr := crypt_any kA nA tA kn kc 12 nc tn tc key nonce text w ik inn it
  rw [cryptS_ok hG.1 ln (by omega)] at hcr
  have hC : sealA key nonce aad text = cryptA key nonce text ++ tagA key nonce aad (cryptA key nonce text) := rfl
  have htag := fun A c W h1 h2 h3 h4 => gtag_any kA nA aA A kn kc nc an ac tn c key nonce aad (cryptA key nonce text) W hG.1 h1 h2 h3 h4 (by omega) (by omega)
  have hcl : (cryptA key nonce text).length = tn := by rw [cryptA_len, lt]
  have htl := tagA_len key nonce aad (cryptA key nonce text)
  rw [hC]
  generalize tagA key nonce aad (cryptA key nonce text) = T at *
  generalize cryptA key nonce text = C at *
  have hd1 : decide (65536 < (an : Int)) = false := by simp; omega
  have hd2 : decide (65536 < (tn : Int)) = false := by simp; omega
  have HOP := Lib.hid hop
  have HCR := Lib.hid hcr
  have HTG := Lib.hid htag
  have HCL := Lib.hid hcl
  have HTL := Lib.hid htl
  have IK := Lib.hid ik
  have IN := Lib.hid inn
  have IA := Lib.hid ia
  have HT := Lib.hid ht
  clear hop hcr htag hcl htl ik inn ia it lk ln lt hG hC ha ht
  go_enter Tryz.func231, Tryz.ntmps231
  go_wp2_with fail
  refine HOP.out.mono ?_
  rintro e w' ⟨rfl, rfl⟩
  go_wp2_with fail
  refine HCR.out.mono ?_
  rintro e w1 ⟨v1, rfl, hv1, hb1⟩
  obtain ⟨A1, c1, rfl, hc1, -⟩ := hv1.shape
  rw [HCL.out] at hv1 hc1 ⊢
  have O1 := Lib.hid (hv1.isB HCL.out)
  have B1 := Lib.hid hb1
  have hsl := fun W => sl_clip W A1 tn c1 tn hc1
  clear hv1 hb1
  go_wp2_with fail
  refine (HTG.out A1 c1 w1 (IK.out.ab B1.out) (IN.out.ab B1.out) (IA.out.ab B1.out) O1.out).mono ?_
  rintro e w2 ⟨v2, rfl, hv2, hb2⟩
  obtain ⟨g2, c2, rfl, -, -, -, -, -⟩ := hv2.form (by rw [HTL.out]; decide)
  rw [HTL.out] at hv2 ⊢
  have T2 := Lib.hid (hv2.isB HTL.out)
  have O2 := Lib.hid ((O1.out.ab hb2).clip)
  have B2 := Lib.hid (below_tr B1.out hb2 B1.out.size)
  clear hv2 hb2 B1 O1 HTG
  go_wp2_with (refine wpList_appGrow rfl (.tmp 51) (.tmp 52) rfl Tryz.underlying22 hi0 hz0 hz1 hz2 rfl (A := A1) (n := tn) (c := tn) (la := C) O2.out rfl (X := ⟨g2, 0, none⟩) (m := 16) (d := c2) (lx := T) T2.out rfl (fun e => by subst e; exact O2.out.none) (by omega) (by have := HT.out; omega) ?_
               intro v3 w3 hv3 hb3
               have V3 := Lib.hid (hv3.lower B2.out.size)
               have B3 := Lib.hid (below_tr B2.out hb3 B2.out.size)
               clear hv3 hb3)
  go_ret2
  exact ⟨_, rfl, V3.out, B3.out⟩
set_option maxRecDepth 100000 in
set_option maxHeartbeats 1000000 in
theorem gseal_arg (kA nA aA tA : Option Addr) (kn kc nn nc an ac tn tc : Nat) (key nonce : List Nat) (w : World) (hG : ¬ GOk key nonce) (lk : key.length = kn) (ln : nonce.length = nn) :
    Calls Tryz.prog 231 #[.slice kA kn kc, .slice nA nn nc, .slice aA an ac, .slice tA tn tc] w (OutB w [] 2) := by
  have hop := gopens_any kA nA kn kc nn nc key nonce w lk ln
  rw [if_neg hG] at hop
  have HOP := Lib.hid hop
  clear hop lk ln hG
  go_enter Tryz.func231, Tryz.ntmps231
  go_wp2_with fail
  refine HOP.out.mono ?_
  rintro e w' ⟨rfl, rfl⟩
  go_wp2_with fail
  go_ret2
  exact OutB.refused 2 (Below.refl _ _)
theorem two_ways (a b : Bool) (P : Prop) (h1 : a = true → P) (h2 : a = false → b = true → P) (h : a = true ∨ b = true) : P := by
  cases a
  · exact h2 rfl (by simpa using h)
  · exact h1 rfl
set_option maxRecDepth 100000 in
set_option maxHeartbeats 1000000 in
theorem gseal_long (kA nA aA tA : Option Addr) (kn kc nn nc an ac tn tc : Nat) (key nonce : List Nat) (w : World) (hG : GOk key nonce) (lk : key.length = kn) (ln : nonce.length = nn) (h : 65536 < an ∨ 65536 < tn) :
    Calls Tryz.prog 231 #[.slice kA kn kc, .slice nA nn nc, .slice aA an ac, .slice tA tn tc] w (OutB w [] 3) := by
  have hop := gopens_any kA nA kn kc nn nc key nonce w lk ln
  rw [if_pos hG] at hop
  have HOP := Lib.hid hop
  clear hop lk ln hG
  refine two_ways (decide (65536 < (an : Int))) (decide (65536 < (tn : Int))) _ (fun h1 => ?_) (fun h1 h2 => ?_) (by simp only [decide_eq_true_eq]; omega)
  all_goals
    clear h
    go_enter Tryz.func231, Tryz.ntmps231
    go_wp2_with fail
    refine HOP.out.mono ?_
    rintro e w' ⟨rfl, rfl⟩
    go_wp2_with fail
    go_ret2
    exact OutB.refused 3 (Below.refl _ _)
/-- P6.1 of the program, whatever comes in -/
theorem gseal_any (kA nA aA tA : Option Addr) (kn kc nn nc an ac tn tc : Nat) (key nonce aad text : List Nat) (w : World) (ik : IsB w kA kn kc key) (inn : IsB w nA nn nc nonce) (ia : IsB w aA an ac aad) (it : IsB w tA tn tc text) :
    Calls Tryz.prog 231 #[.slice kA kn kc, .slice nA nn nc, .slice aA an ac, .slice tA tn tc] w (OutB w (sealS key nonce aad text).1 (sealS key nonce aad text).2) := by
  have la := ia.len
  have lt := it.len
  unfold sealS
  by_cases hG : GOk key nonce
  · rw [if_pos hG]
    by_cases hl : 65536 < aad.length ∨ 65536 < text.length
    · rw [if_pos hl]
      exact gseal_long kA nA aA tA kn kc nn nc an ac tn tc key nonce w hG ik.len inn.len (by omega)
    · rw [if_neg hl]
      exact gseal_ok kA nA aA tA kn kc nn nc an ac tn tc key nonce aad text w hG ik inn ia it (by omega) (by omega)
  · rw [if_neg hG]
    exact gseal_arg kA nA aA tA kn kc nn nc an ac tn tc key nonce w hG ik.len inn.len

set_option maxRecDepth 100000 in
set_option maxHeartbeats 1000000 in
theorem gopen_arg (kA nA aA tA : Option Addr) (kn kc nn nc an ac tn tc : Nat) (key nonce : List Nat) (w : World) (hG : ¬ GOk key nonce) (lk : key.length = kn) (ln : nonce.length = nn) :
    Calls Tryz.prog 176 #[.slice kA kn kc, .slice nA nn nc, .slice aA an ac, .slice tA tn tc] w (OutB w [] 2) := by
  have hop := gopens_any kA nA kn kc nn nc key nonce w lk ln
  rw [if_neg hG] at hop
  have HOP := Lib.hid hop
  clear hop lk ln hG
  go_enter Tryz.func176, Tryz.ntmps176
  go_wp2_with fail
  refine HOP.out.mono ?_
  rintro e w' ⟨rfl, rfl⟩
  go_wp2_with fail
  go_ret2
  exact OutB.refused 2 (Below.refl _ _)
set_option maxRecDepth 100000 in
set_option maxHeartbeats 1000000 in
theorem gopen_long (kA nA aA tA : Option Addr) (kn kc nn nc an ac tn tc : Nat) (key nonce : List Nat) (w : World) (hG : GOk key nonce) (lk : key.length = kn) (ln : nonce.length = nn) (h : 65536 < an ∨ 65552 < tn) :
    Calls Tryz.prog 176 #[.slice kA kn kc, .slice nA nn nc, .slice aA an ac, .slice tA tn tc] w (OutB w [] 3) := by
  have hop := gopens_any kA nA kn kc nn nc key nonce w lk ln
  rw [if_pos hG] at hop
  have HOP := Lib.hid hop
  clear hop lk ln hG
  refine two_ways (decide (65536 < (an : Int))) (decide (65552 < (tn : Int))) _ (fun h1 => ?_) (fun h1 h2 => ?_) (by simp only [decide_eq_true_eq]; omega)
  all_goals
    clear h
    go_enter Tryz.func176, Tryz.ntmps176
    go_wp2_with fail
    refine HOP.out.mono ?_
    rintro e w' ⟨rfl, rfl⟩
    go_wp2_with fail
    go_ret2
    exact OutB.refused 3 (Below.refl _ _)
set_option maxRecDepth 100000 in
set_option maxHeartbeats 1000000 in
theorem gopen_short (kA nA aA tA : Option Addr) (kn kc nn nc an ac tn tc : Nat) (key nonce : List Nat) (w : World) (hG : GOk key nonce) (lk : key.length = kn) (ln : nonce.length = nn) (ha : an ≤ 65536) (h : tn < 16) :
    Calls Tryz.prog 176 #[.slice kA kn kc, .slice nA nn nc, .slice aA an ac, .slice tA tn tc] w (OutB w [] 4) := by
  have hop := gopens_any kA nA kn kc nn nc key nonce w lk ln
  rw [if_pos hG] at hop
  have HOP := Lib.hid hop
  have hd1 : decide (65536 < (an : Int)) = false := by simp; omega
  have hd2 : decide (65552 < (tn : Int)) = false := by simp; omega
  have hw : IntKind.i64.wrap ((tn : Int) - 16) = (tn : Int) - 16 := IntWalk.i64_in _ (by omega)
  have hd3 : decide ((tn : Int) - 16 < 0) = true := by simp; omega
  clear hop lk ln hG h ha
  go_enter Tryz.func176, Tryz.ntmps176
  go_wp2_with fail
  refine HOP.out.mono ?_
  rintro e w' ⟨rfl, rfl⟩
  go_wp2_with fail
  go_ret2
  exact OutB.refused 4 (Below.refl _ _)
set_option maxRecDepth 100000 in
set_option maxHeartbeats 2000000 in
theorem gopen_ok (kA nA aA tA : Option Addr) (kn kc nn nc an ac n tc : Nat) (key nonce aad s : List Nat) (w : World) (hG : GOk key nonce) (ik : IsB w kA kn kc key) (inn : IsB w nA nn nc nonce) (ia : IsB w aA an ac aad) (it : IsB w tA (n + 16) tc s) (ha : an ≤ 65536) (ht : n ≤ 65536) :
    Calls Tryz.prog 176 #[.slice kA kn kc, .slice nA nn nc, .slice aA an ac, .slice tA ((n + 16 : Nat)) tc] w (OutB w (if tagA key nonce aad (s.take n) = s.drop n then cryptA key nonce (s.take n) else []) (if tagA key nonce aad (s.take n) = s.drop n then 0 else 60)) := by
  have lk := ik.len
  have ln := inn.len
  have lt := it.len
  have hcap := it.1.lenCap
  obtain rfl : nn = 12 := by rw [← ln]; exact hG.2
  have hop := gopens_any kA nA kn kc 12 nc key nonce w lk ln
  rw [if_pos hG] at hop
  have itk := it.take (m := n) (by omega)
  have itd := isB_drop it (m := n) (by omega)
  rw [show n + 16 - n = 16 by omega] at itd
  have hcr := fun W h1 h2 h3 => crypt_any kA nA tA kn kc 12 nc n tc key nonce (s.take n) W h1 h2 h3
  rw [cryptS_ok hG.1 ln (by simp; omega)] at hcr
  have htag := fun W h1 h2 h3 h4 => gtag_any kA nA aA tA kn kc nc an ac n tc key nonce aad (s.take n) W hG.1 h1 h2 h3 h4 (by omega) (by omega)
  have htl := tagA_len key nonce aad (s.take n)
  generalize tagA key nonce aad (s.take n) = T at *
  generalize cryptA key nonce (s.take n) = C at *
  have hd1 : decide (65536 < (an : Int)) = false := by simp; omega
  have hd2 : decide (65552 < ((n + 16 : Nat) : Int)) = false := by simp; omega
  have hd2' : decide (65552 < (n : Int) + 16) = false := by simp; omega
  have hnb : (n : Int) ≤ 65536 := by omega
  have hs1 := fun W => sl_upto W tA (n + 16) tc n (by omega)
  have hs2 := fun W => sl_from W tA (n + 16) tc n (by omega)
  rw [show n + 16 - n = 16 by omega] at hs2
  have HOP := Lib.hid hop
  have HCR := Lib.hid hcr
  have HTG := Lib.hid htag
  have HTL := Lib.hid htl
  have IK := Lib.hid ik
  have IN := Lib.hid inn
  have IA := Lib.hid ia
  have ITK := Lib.hid itk
  have ITD := Lib.hid itd
  clear hop hcr htag htl ik inn ia it lk ln lt hG ha ht itk itd hcap
  generalize s.drop n = D at *
  generalize s.take n = b at *
  by_cases hTD : T = D
  · rw [if_pos hTD, if_pos hTD]
    have hde : decide (T = D) = true := decide_eq_true hTD
    clear hTD
    go_enter Tryz.func176, Tryz.ntmps176
    go_wp2_with fail
    refine HOP.out.mono ?_
    rintro e w' ⟨rfl, rfl⟩
    go_wp2_with fail
    refine (HTG.out w IK.out IN.out IA.out ITK.out).mono ?_
    rintro e w1 ⟨v1, rfl, hv1, hb1⟩
    obtain ⟨g1, c1, rfl, -, -, -, -, -⟩ := hv1.form (by rw [HTL.out]; decide)
    rw [HTL.out] at hv1 ⊢
    have O1 := Lib.hid (hv1.isB HTL.out)
    have B1 := Lib.hid hb1
    clear hv1 hb1 HTG
    go_wp2_with fail
    refine (osame_any _ _ 16 c1 (tc - n) T D w1 O1.out (ITD.out.ab B1.out) (by decide)).mono ?_
    rintro e w2 ⟨rfl, hb2⟩
    have B2 := Lib.hid (below_tr B1.out hb2 B1.out.size)
    clear hb2 B1 O1
    rw [hde]
    go_wp2_with fail
    refine (HCR.out w2 (IK.out.ab B2.out) (IN.out.ab B2.out) (ITK.out.ab B2.out)).mono ?_
    rintro e w3 ⟨v3, rfl, hv3, hb3⟩
    have V3 := Lib.hid (hv3.lower B2.out.size)
    have B3 := Lib.hid (below_tr B2.out hb3 B2.out.size)
    clear hv3 hb3
    go_wp2_with fail
    go_ret2
    exact ⟨_, rfl, V3.out, B3.out⟩
  · rw [if_neg hTD, if_neg hTD]
    have hde : decide (T = D) = false := decide_eq_false hTD
    clear hTD
    go_enter Tryz.func176, Tryz.ntmps176
    go_wp2_with fail
    refine HOP.out.mono ?_
    rintro e w' ⟨rfl, rfl⟩
    go_wp2_with fail
    refine (HTG.out w IK.out IN.out IA.out ITK.out).mono ?_
    rintro e w1 ⟨v1, rfl, hv1, hb1⟩
    obtain ⟨g1, c1, rfl, -, -, -, -, -⟩ := hv1.form (by rw [HTL.out]; decide)
    rw [HTL.out] at hv1 ⊢
    have O1 := Lib.hid (hv1.isB HTL.out)
    have B1 := Lib.hid hb1
    clear hv1 hb1 HTG
    go_wp2_with fail
    refine (osame_any _ _ 16 c1 (tc - n) T D w1 O1.out (ITD.out.ab B1.out) (by decide)).mono ?_
    rintro e w2 ⟨rfl, hb2⟩
    have B2 := Lib.hid (below_tr B1.out hb2 B1.out.size)
    clear hb2 B1 O1
    rw [hde]
    go_wp2_with fail
    go_ret2
    exact OutB.refused 60 B2.out
/-- P6.2 of the program, whatever comes in -/
theorem gopen_any (kA nA aA tA : Option Addr) (kn kc nn nc an ac tn tc : Nat) (key nonce aad s : List Nat) (w : World) (ik : IsB w kA kn kc key) (inn : IsB w nA nn nc nonce) (ia : IsB w aA an ac aad) (it : IsB w tA tn tc s) :
    Calls Tryz.prog 176 #[.slice kA kn kc, .slice nA nn nc, .slice aA an ac, .slice tA tn tc] w (OutB w (openS key nonce aad s).1 (openS key nonce aad s).2) := by
  have la := ia.len
  have lt := it.len
  unfold openS
  by_cases hG : GOk key nonce
  · rw [if_pos hG]
    by_cases hl : 65536 < aad.length ∨ 65552 < s.length
    · rw [if_pos hl]
      exact gopen_long kA nA aA tA kn kc nn nc an ac tn tc key nonce w hG ik.len inn.len (by omega)
    · rw [if_neg hl]
      by_cases hs : s.length < 16
      · rw [if_pos hs]
        exact gopen_short kA nA aA tA kn kc nn nc an ac tn tc key nonce w hG ik.len inn.len (by omega) (by omega)
      · rw [if_neg hs]
        obtain ⟨n, hn⟩ : ∃ n, tn = n + 16 := ⟨tn - 16, by omega⟩
        subst hn
        have := gopen_ok kA nA aA tA kn kc nn nc an ac n tc key nonce aad s w hG ik inn ia it (by omega) (by omega)
        rw [show s.length - 16 = n by omega]
        by_cases hT : tagA key nonce aad (s.take n) = s.drop n
        · rw [if_pos hT]
          rw [if_pos hT, if_pos hT] at this
          exact this
        · rw [if_neg hT]
          rw [if_neg hT, if_neg hT] at this
          exact this
  · rw [if_neg hG]
    exact gopen_arg kA nA aA tA kn kc nn nc an ac tn tc key nonce w hG ik.len inn.len
end Go.Proofs.YtakgebbeknfplaaGreat
