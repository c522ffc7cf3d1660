/-
  REVIVE: ReviveOpens: the walk.
-/
import Derived.Test.YtakgebbeknfplaaGreatDvC
import Derived.Test.YtakgebbeknfplaaGreatDvD
import Derived.Test.YtakgebbeknfplaaGreatDvE
namespace Go.Proofs.YtakgebbeknfplaaGreat
open Go.RowKit Go.ChangeShapes Go.WideShapes
set_option linter.unusedVariables false
set_option linter.unusedSimpArgs false

theorem Fr.tr2 {a b c : World} {F G : Nat → Prop} (h : Fr a b F) (k : Fr b c G) (hi : ∀ q, G q → q < a.heap.size → F q) : Fr a c F :=
  ⟨k.os.trans h.os, k.tape.trans h.tape, k.output.trans h.output, Nat.le_trans h.size k.size, fun i hl hn => (k.block i (Nat.lt_of_lt_of_le hl h.size) (fun e => hn (hi i e hl))).trans (h.block i hl hn)⟩
/-- the devices and the registers behind the rings -/
structure Stt (S d g1 g2 r g3 : Nat) (v1 v2 : Value) (b1 b2 : List Nat) (w0 wl : World) (st res : Int) (com : Nat) (cut : Int) (down : Bool) (L : List Nat) (wr : World) : Prop where
  dev : DkB wr S d g1 g2 st cut down L
  reg : RsB wr r d 200 res com
  ref : RdB wr wl.heap.size g3 v1 v2 b1 b2 0 cut down L
  fr : Fr wl wr (fun k => k = d ∨ k = r ∨ k = g1 ∨ k = g2)
  bel : Below S w0 wr
  le : S ≤ wl.heap.size
section
variable {S d g1 g2 r g3 : Nat} {v1 v2 : Value} {b1 b2 : List Nat} {w0 wl wr wn : World} {st res : Int} {com : Nat} {cut : Int} {down : Bool} {L : List Nat}
theorem Stt.ab (h : Stt S d g1 g2 r g3 v1 v2 b1 b2 w0 wl st res com cut down L wr) (hb : Below wr.heap.size wr wn) : Stt S d g1 g2 r g3 v1 v2 b1 b2 w0 wl st res com cut down L wn := by
  have hg : CbB wr r 166 _ := h.reg
  exact ⟨h.dev.ab hb, hg.ab hb, h.ref.ab hb, h.fr.tr2 (Fr.of hb (fun _ => False)) (fun q hq => hq.elim), below_tr h.bel hb (by have := h.dev.lt; have := h.dev.low; omega), h.le⟩
end
theorem DkB.lower {w : World} {B B' d g1 g2 : Nat} {st cut : Int} {down : Bool} {L : List Nat} (h : DkB w B d g1 g2 st cut down L) (hB : B' ≤ B) : DkB w B' d g1 g2 st cut down L :=
  ⟨h.box, h.now, h.firm, h.len, h.byt, h.ne, Nat.le_trans hB h.low.1, Nat.le_trans hB h.low.2.1, Nat.le_trans hB h.low.2.2⟩
theorem IsB.frX {w W : World} {A : Option Addr} {n c : Nat} {l : List Nat} {F : Nat → Prop} (h : IsB w A n c l) (hf : Fr w W F) (hn : 0 < n → ∀ x, A = Option.some x → ¬ F x.block) : IsB W A n c l := by
  by_cases h0 : 0 < n
  · exact h.fr hf (hn h0)
  · obtain rfl : n = 0 := by omega
    have hl := h.len
    obtain rfl : l = [] := List.eq_nil_of_length_eq_zero hl
    obtain ⟨⟨k1, k2, k3, k4, k5⟩, k6⟩ := h
    refine ⟨⟨k1, k2, k3, k4, ?_⟩, k6⟩
    rcases k5 with k5 | ⟨X, k5, k5l, _⟩
    · exact .inl k5
    · exact .inr ⟨X, k5, fun h => Nat.lt_of_lt_of_le (k5l h) hf.size, fun i hi => absurd hi (Nat.not_lt_zero i)⟩
def errF (n : Nat) : Nat := if 256 < n then 2 else 0
def putF (L b : List Nat) (n i : Nat) : List Nat := if 256 < n then L else putD L b i
theorem foreign_all (B d g1 g2 : Nat) (st cut : Int) (down : Bool) (L : List Nat) (w : World) (i : Nat) (hi : i < 8) (bA : Option Addr) (bn bc : Nat) (b : List Nat) (h : DkB w B d g1 g2 st cut down L) (ib : IsB w bA bn bc b) (hA : 0 < bn → ∀ x, bA = some x → x.block ≠ g1 ∧ x.block ≠ g2) :
    Calls Tryz.prog 19 #[.pointer (some ⟨d, 0, none⟩), .int .i64 (i : Int), .int .i64 0, .slice bA bn bc] w fun e w' => e = .returned (.int .i64 (errF bn : Int)) ∧ DkB w' B d g1 g2 st cut down (putF L b bn i) ∧ Fr w w' (fun k => k = g1 ∨ k = g2) := by
  unfold errF putF
  by_cases hn : 256 < bn
  · rw [if_pos hn, if_pos hn]
    refine (foreign_no B d g1 g2 st cut down L w i hi bA bn bc h hn).mono ?_
    rintro e w' ⟨rfl, rfl⟩
    exact ⟨rfl, h, Fr.of (Below.refl _ _) _⟩
  · rw [if_neg hn, if_neg hn]
    exact foreign_yes B d g1 g2 st cut down L w i hi bA bn bc b h ib hn hA
theorem rforeign_all (B g : Nat) (v1 v2 : Value) (b1 b2 : List Nat) (st cut : Int) (down : Bool) (L : List Nat) (w : World) (i : Nat) (hi : i < 8) (bA : Option Addr) (bn bc : Nat) (b : List Nat) (h : RdB w B g v1 v2 b1 b2 st cut down L) (hL : L.length = 2048) (hbL : Byt L) (hl1 : b1.length = 8) (hl2 : b2.length = 8) (ib : IsB w bA bn bc b) (hA : 0 < bn → ∀ x, bA = some x → x.block < B) :
    Calls Tryz.prog 20 #[.pointer (some ⟨g, 0, none⟩), .int .i64 (i : Int), .int .i64 0, .slice bA bn bc] w fun e w' => e = .returned (.int .i64 (errF bn : Int)) ∧ RdB w' B g v1 v2 b1 b2 st cut down (putF L b bn i) ∧ Fr w w' (fun k => B ≤ k) := by
  unfold errF putF
  by_cases hn : 256 < bn
  · rw [if_pos hn, if_pos hn]
    refine (rforeign_no B g v1 v2 b1 b2 st cut down L w i hi bA bn bc h hl1 hn).mono ?_
    rintro e w' ⟨rfl, rfl⟩
    exact ⟨rfl, h, Fr.of (Below.refl _ _) _⟩
  · rw [if_neg hn, if_neg hn]
    refine (rforeign_yes B g v1 v2 b1 b2 st cut down L w i hi bA bn bc b h hL hbL hl1 hl2 ib hn hA).mono ?_
    rintro e w' ⟨rfl, h1, h2⟩
    exact ⟨rfl, h1, h2.imp fun k hk => hk.1⟩
set_option maxRecDepth 100000 in
set_option maxHeartbeats 16000000 in
theorem ropens_any (xa0 : Option Addr) (xn0 xc0 : Nat) (xs0 : List Nat) (xa1 : Option Addr) (xn1 xc1 : Nat) (xs1 : List Nat) (xr : Int) (xc : Nat) (xo : Bool) (A : Option Addr) (n c : Nat) (ks : List KArg) (w : World)
    (hk : KsB w A n c ks) (hi0 : IsB w xa0 xn0 xc0 xs0) (hi1 : IsB w xa1 xn1 xc1 xs1) (hxc : xc < 18446744073709551616) :
    Calls Tryz.prog 3 #[.agg #[.slice xa0 xn0 xc0, .slice xa1 xn1 xc1, .int .i64 xr, .int .u64 (xc : Int), .bool xo], .slice A n c] w fun e w' => e = .returned (.bool true) ∧ Below w.heap.size w w' := by
  have HK := Lib.hid known21_any
  have IL0 : Hid (0 < xn0 → ∀ y, xa0 = some y → y.block < w.heap.size) := Lib.hid fun h y hy => by
    obtain ⟨x, hx, hl, _⟩ := hi0.cell h
    rw [hx] at hy
    injection hy with hy
    rw [← hy]
    exact hl
  have IL1 : Hid (0 < xn1 → ∀ y, xa1 = some y → y.block < w.heap.size) := Lib.hid fun h y hy => by
    obtain ⟨x, hx, hl, _⟩ := hi1.cell h
    rw [hx] at hy
    injection hy with hy
    rw [← hy]
    exact hl
  have hn : (n : Int) ≤ 9223372036854775807 := by have := hk.cap; have := hk.max; unfold maxLen at this; omega
  have ha : Below w.heap.size w (w.alloc (.cells #[.slice xa0 xn0 xc0, .slice xa1 xn1 xc1, .int .i64 xr, .int .u64 (xc : Int), .bool xo] 26)) := (Below.refl _ _).alloc (Nat.le_refl _) _
  have hx := CbB.new w 26 #[.slice xa0 xn0 xc0, .slice xa1 xn1 xc1, .int .i64 xr, .int .u64 (xc : Int), .bool xo]
  go_enter Tryz.func3, Tryz.ntmps3
  go_upto_region 1 with (fail)
  obtain ⟨w0, hw0⟩ : ∃ w0, w.alloc (.cells #[.slice xa0 xn0 xc0, .slice xa1 xn1 xc1, .int .i64 xr, .int .u64 (xc : Int), .bool xo] 26) = w0 := ⟨_, rfl⟩
  have hsz0 : w0.heap.size = w.heap.size + 1 := by rw [← hw0]; simp
  rw [hw0] at ha hx ⊢
  clear hw0
  have K0 := Lib.hid (hk.below ha)
  have I0 := Lib.hid (hi0.ab ha)
  have I1 := Lib.hid (hi1.ab ha)
  have X0 := Lib.hid hx
  have B0 := Lib.hid ha
  have S0 := Lib.hid hsz0
  clear hk hi0 hi1 hx ha hsz0
  have cxr := X0.out.cell (k := 2) rfl
  by_cases h60 : 60 < n
  · have h60' : (60 : Int) < (n : Int) := by omega
    clear h60
    go_wp2_with fail
    refine (HK.out _).mono ?_
    rintro e wz ⟨rfl, hb⟩
    have BZ := Lib.hid (below_tr B0.out hb B0.out.size)
    clear hb
    go_wp2_with fail
    go_ret
    exact ⟨rfl, BZ.out⟩
  have h60' : ¬ (60 : Int) < (n : Int) := by omega
  have N60 := Lib.hid h60
  clear h60
  by_cases h200 : (200 : Int) < xr
  · have h200d : decide ((200 : Int) < xr) = true := by simp [h200]
    go_wp2_with fail
    refine (HK.out _).mono ?_
    rintro e wz ⟨rfl, hb⟩
    have BZ := Lib.hid (below_tr B0.out hb B0.out.size)
    clear hb
    go_wp2_with fail
    go_ret
    exact ⟨rfl, BZ.out⟩
  have h200d : decide ((200 : Int) < xr) = false := by simp; omega
  have R200 := Lib.hid h200
  go_wp2_with fail
  refine (diskNew_any 8 w0 (by decide) (by decide)).mono ?_
  rintro e w1 ⟨d, g1, g2, rfl, hd, hb⟩
  have D1 := Lib.hid (hd.dev.lower (B' := w.heap.size) (by have := S0.out; omega))
  have LOW : Hid (w.heap.size < d ∧ w.heap.size < g1 ∧ w.heap.size < g2) := Lib.hid (by have := hd.dev.low; have := S0.out; omega)
  have B1 := Lib.hid hb
  clear hd hb cxr h200 h200d
  go_wp2_with fail
  refine (regsNew_nil d 200 w1).mono ?_
  rintro e w2 ⟨rfl, hc, hb⟩
  have R2 : Hid (RsB w2 w1.heap.size d 200 0 0) := Lib.hid hc
  have D2 := Lib.hid (D1.out.ab hb)
  have RL : Hid (d < w1.heap.size ∧ g1 < w1.heap.size ∧ g2 < w1.heap.size) := Lib.hid D1.out.lt
  have RG : Hid (w1.heap.size < w2.heap.size) := Lib.hid (by have h : CbB w2 w1.heap.size 166 _ := hc; exact h.lt)
  have B2 := Lib.hid (below_tr B1.out hb B1.out.size)
  have RLOW : Hid (w.heap.size < w1.heap.size) := Lib.hid (by have := LOW.out; have := RL.out; omega)
  clear hc hb D1 B1
  generalize hr : w1.heap.size = r at *
  clear hr w1
  have K2 := Lib.hid (K0.out.below B2.out)
  have X2 := Lib.hid (X0.out.ab B2.out)
  have J0 := Lib.hid (I0.out.ab B2.out)
  have J1 := Lib.hid (I1.out.ab B2.out)
  have BW := Lib.hid (below_tr B0.out B2.out B0.out.size)
  clear K0 X0 I0 I1 B0
  go_wp2_with fail
  refine (newRing_any w2).mono ?_
  rintro e w3 ⟨g, m, rfl, hg, hrr, hb⟩
  have R3 := Lib.hid hrr
  have G3 := Lib.hid hg
  have B3 := Lib.hid hb
  clear hrr hb hg
  have hn0 : ¬ (some (⟨d, 0, none⟩ : Addr) = none) := by simp
  go_wp2_with fail
  go_loopw [55] (fun j wr => ∃ i : Nat, i ≤ n ∧ j = .int .i64 (i : Int) ∧ Below w2.heap.size w2 wr ∧ Two w2.heap.size g m w3.heap.size (foldK [] (ks.take i)) wr) (fun j _ => n - (intOf j).toNat)
  case atStart =>
    have ha : Below w3.heap.size w3 (w3.alloc (.cells #[.slice none 0 0] 40)) := (Below.refl _ _).alloc (Nat.le_refl _) _
    refine ⟨0, Nat.zero_le _, rfl, below_tr B3.out ha B3.out.size, R3.out.ab ha, .slice none 0 0, [], CbB.new _ _ _, ?_, trivial, ?_, fun p hp => by cases hp⟩
    · exact ⟨by simp [keyCs, foldK], .inl ⟨rfl, rfl⟩⟩
    · exact Nat.le_trans B3.out.size ha.size
  case round =>
    obtain ⟨i, hi, rfl, hb, hT⟩ := hrel
    by_cases hlt : i < n
    · obtain ⟨q, hq⟩ : ∃ q, ks[i]? = some q := ⟨_, List.getElem?_eq_getElem (by rw [K2.out.len]; exact hlt)⟩
      obtain ⟨x, rfl, hxl, c0, c1, c2, qt, qg, ik⟩ := K2.out.cel i q hq
      have hlti : (i : Int) < (n : Int) := by omega
      have HL := Lib.hid hlt
      have HT := Lib.hid hT
      have HB := Lib.hid hb
      have HQ := Lib.hid hq
      have XL := Lib.hid hxl
      have C0 := Lib.hid c0
      have C1 := Lib.hid c1
      have C2 := Lib.hid c2
      have IK := Lib.hid ik
      have QT := Lib.hid qt
      have QG := Lib.hid qg
      clear hlt hT hb hq hxl c0 c1 c2 ik qt qg hi
      go_wp2_with fail
      by_cases h64 : 64 < q.n
      · have h64' : (64 : Int) < (q.n : Int) := by omega
        clear h64
        refine wp_wide3 [⟨58, IsR (.slice (some x) n c), [], false⟩, ⟨59, IsR (.int .i64 (i : Int)), [], false⟩, ⟨60, IsR (.pointer (some (x.add (i * 3)))), [0, 1], false⟩, ⟨61, IsR (.pointer (some ((x.add (i * 3)).add 2))), [2], false⟩, ⟨62, IsR (.slice q.a q.n q.c), [3], false⟩, ⟨63, IsR (.int .i64 (q.n : Int)), [4], false⟩, ⟨64, IsR (.bool true), [5], false⟩, ⟨65, IsR (.bool true), [6], false⟩, ⟨66, AnyR, [7], false⟩, ⟨67, AnyR, [7], false⟩, ⟨68, AnyR, [7], false⟩, ⟨69, AnyR, [7], false⟩, ⟨70, AnyR, [7], false⟩, ⟨71, AnyR, [7], false⟩, ⟨72, AnyR, [7], false⟩, ⟨73, AnyR, [7], false⟩, ⟨74, AnyR, [7], false⟩, ⟨75, AnyR, [7], false⟩, ⟨76, AnyR, [7], false⟩, ⟨77, AnyR, [7], false⟩, ⟨78, AnyR, [7], false⟩, ⟨79, AnyR, [7], false⟩, ⟨80, AnyR, [7], false⟩, ⟨81, AnyR, [7], false⟩, ⟨82, AnyR, [7], false⟩, ⟨83, AnyR, [7], false⟩, ⟨84, AnyR, [7], false⟩, ⟨85, AnyR, [7], false⟩, ⟨86, AnyR, [7], false⟩, ⟨87, AnyR, [7], false⟩, ⟨88, AnyR, [7], false⟩, ⟨89, AnyR, [7], false⟩, ⟨90, AnyR, [7], false⟩, ⟨91, AnyR, [7], false⟩, ⟨92, AnyR, [7], false⟩, ⟨93, AnyR, [7], false⟩, ⟨94, AnyR, [7], false⟩, ⟨95, AnyR, [7], false⟩, ⟨96, AnyR, [7], false⟩, ⟨97, AnyR, [7], false⟩, ⟨98, AnyR, [7], false⟩, ⟨99, AnyR, [7], false⟩] (by kernel_rfl) (by kernel_rfl) rfl rfl rfl ⟨?_, ?_, ?_, ?_, ?_, ?_, ?_, ?_, ?_, ?_, ?_, ?_, ?_, ?_, ?_, ?_, ?_, ?_, ?_, ?_, ?_, ?_, ?_, ?_, ?_, ?_, ?_, ?_, ?_, ?_, ?_, ?_, ?_, ?_, ?_, ?_, ?_, ?_, ?_, ?_, ?_, ?_, trivial⟩ ?_
        · refine ⟨rfl, IsR.mono _, fun a W hA hb hd => takes_plain rfl (yields_value _ ?_ rfl)⟩
          have h1 : a.tmps[1]?.getD undef = .slice (some x) n c := (eval_get a 1).trans ((hA.eval (by simp)).trans rfl)
          go_simp
        · refine ⟨rfl, IsR.mono _, fun a W hA hb hd => takes_plain rfl (yields_value _ ?_ rfl)⟩
          have h11 : a.tmps[11]?.getD undef = .int .i64 (i : Int) := (eval_get a 11).trans ((hA.eval (by simp)).trans rfl)
          go_simp
        · refine ⟨rfl, IsR.mono _, fun a W hA hb hd => takes_plain rfl (yields_value _ ?_ rfl)⟩
          have h58 : a.tmps[58]?.getD undef = .slice (some x) n c := (eval_get a 58).trans (hd 0 (by simp) _ rfl)
          have h59 : a.tmps[59]?.getD undef = .int .i64 (i : Int) := (eval_get a 59).trans (hd 1 (by simp) _ rfl)
          go_simp
        · refine ⟨rfl, IsR.mono _, fun a W hA hb hd => takes_plain rfl (yields_value _ ?_ rfl)⟩
          have h60 : a.tmps[60]?.getD undef = .pointer (some (x.add (i * 3))) := (eval_get a 60).trans (hd 2 (by simp) _ rfl)
          go_simp
        · refine ⟨rfl, IsR.mono _, fun a W hA hb hd => takes_plain rfl (yields_value _ ?_ rfl)⟩
          have h61 : a.tmps[61]?.getD undef = .pointer (some ((x.add (i * 3)).add 2)) := (eval_get a 61).trans (hd 3 (by simp) _ rfl)
          have hc : W.cell? (⟨(x.add (i * 3)).block, (x.add (i * 3)).off + 2, none⟩) = some (.slice q.a q.n q.c) := keep_cell2 C2.out XL.out (below_tr HB.out hb HB.out.size)
          go_simp
        · refine ⟨rfl, IsR.mono _, fun a W hA hb hd => takes_plain rfl (yields_value _ ?_ rfl)⟩
          have h62 : a.tmps[62]?.getD undef = .slice q.a q.n q.c := (eval_get a 62).trans (hd 4 (by simp) _ rfl)
          go_simp
        · refine ⟨rfl, IsR.mono _, fun a W hA hb hd => takes_plain rfl (yields_value _ ?_ rfl)⟩
          have h63 : a.tmps[63]?.getD undef = .int .i64 (q.n : Int) := (eval_get a 63).trans (hd 5 (by simp) _ rfl)
          go_simp
        · refine ⟨rfl, IsR.mono _, fun a W hA hb hd => takes_plain rfl (yields_value _ ?_ rfl)⟩
          have h64 : a.tmps[64]?.getD undef = .bool true := (eval_get a 64).trans (hd 6 (by simp) _ rfl)
          go_simp
        · exact ⟨rfl, AnyR.mono, fun a W hA hb hd => takes_off (i := 7) (d := 65) (b := false) rfl rfl rfl (hd 7 (by simp) _ rfl) trivial⟩
        · exact ⟨rfl, AnyR.mono, fun a W hA hb hd => takes_off (i := 7) (d := 65) (b := false) rfl rfl rfl (hd 7 (by simp) _ rfl) trivial⟩
        · exact ⟨rfl, AnyR.mono, fun a W hA hb hd => takes_off (i := 7) (d := 65) (b := false) rfl rfl rfl (hd 7 (by simp) _ rfl) trivial⟩
        · exact ⟨rfl, AnyR.mono, fun a W hA hb hd => takes_off (i := 7) (d := 65) (b := false) rfl rfl rfl (hd 7 (by simp) _ rfl) trivial⟩
        · exact ⟨rfl, AnyR.mono, fun a W hA hb hd => takes_off (i := 7) (d := 65) (b := false) rfl rfl rfl (hd 7 (by simp) _ rfl) trivial⟩
        · exact ⟨rfl, AnyR.mono, fun a W hA hb hd => takes_off (i := 7) (d := 65) (b := false) rfl rfl rfl (hd 7 (by simp) _ rfl) trivial⟩
        · exact ⟨rfl, AnyR.mono, fun a W hA hb hd => takes_off (i := 7) (d := 65) (b := false) rfl rfl rfl (hd 7 (by simp) _ rfl) trivial⟩
        · exact ⟨rfl, AnyR.mono, fun a W hA hb hd => takes_off (i := 7) (d := 65) (b := false) rfl rfl rfl (hd 7 (by simp) _ rfl) trivial⟩
        · exact ⟨rfl, AnyR.mono, fun a W hA hb hd => takes_off (i := 7) (d := 65) (b := false) rfl rfl rfl (hd 7 (by simp) _ rfl) trivial⟩
        · exact ⟨rfl, AnyR.mono, fun a W hA hb hd => takes_off (i := 7) (d := 65) (b := false) rfl rfl rfl (hd 7 (by simp) _ rfl) trivial⟩
        · exact ⟨rfl, AnyR.mono, fun a W hA hb hd => takes_off (i := 7) (d := 65) (b := false) rfl rfl rfl (hd 7 (by simp) _ rfl) trivial⟩
        · exact ⟨rfl, AnyR.mono, fun a W hA hb hd => takes_off (i := 7) (d := 65) (b := false) rfl rfl rfl (hd 7 (by simp) _ rfl) trivial⟩
        · exact ⟨rfl, AnyR.mono, fun a W hA hb hd => takes_off (i := 7) (d := 65) (b := false) rfl rfl rfl (hd 7 (by simp) _ rfl) trivial⟩
        · exact ⟨rfl, AnyR.mono, fun a W hA hb hd => takes_off (i := 7) (d := 65) (b := false) rfl rfl rfl (hd 7 (by simp) _ rfl) trivial⟩
        · exact ⟨rfl, AnyR.mono, fun a W hA hb hd => takes_off (i := 7) (d := 65) (b := false) rfl rfl rfl (hd 7 (by simp) _ rfl) trivial⟩
        · exact ⟨rfl, AnyR.mono, fun a W hA hb hd => takes_off (i := 7) (d := 65) (b := false) rfl rfl rfl (hd 7 (by simp) _ rfl) trivial⟩
        · exact ⟨rfl, AnyR.mono, fun a W hA hb hd => takes_off (i := 7) (d := 65) (b := false) rfl rfl rfl (hd 7 (by simp) _ rfl) trivial⟩
        · exact ⟨rfl, AnyR.mono, fun a W hA hb hd => takes_off (i := 7) (d := 65) (b := false) rfl rfl rfl (hd 7 (by simp) _ rfl) trivial⟩
        · exact ⟨rfl, AnyR.mono, fun a W hA hb hd => takes_off (i := 7) (d := 65) (b := false) rfl rfl rfl (hd 7 (by simp) _ rfl) trivial⟩
        · exact ⟨rfl, AnyR.mono, fun a W hA hb hd => takes_off (i := 7) (d := 65) (b := false) rfl rfl rfl (hd 7 (by simp) _ rfl) trivial⟩
        · exact ⟨rfl, AnyR.mono, fun a W hA hb hd => takes_off (i := 7) (d := 65) (b := false) rfl rfl rfl (hd 7 (by simp) _ rfl) trivial⟩
        · exact ⟨rfl, AnyR.mono, fun a W hA hb hd => takes_off (i := 7) (d := 65) (b := false) rfl rfl rfl (hd 7 (by simp) _ rfl) trivial⟩
        · exact ⟨rfl, AnyR.mono, fun a W hA hb hd => takes_off (i := 7) (d := 65) (b := false) rfl rfl rfl (hd 7 (by simp) _ rfl) trivial⟩
        · exact ⟨rfl, AnyR.mono, fun a W hA hb hd => takes_off (i := 7) (d := 65) (b := false) rfl rfl rfl (hd 7 (by simp) _ rfl) trivial⟩
        · exact ⟨rfl, AnyR.mono, fun a W hA hb hd => takes_off (i := 7) (d := 65) (b := false) rfl rfl rfl (hd 7 (by simp) _ rfl) trivial⟩
        · exact ⟨rfl, AnyR.mono, fun a W hA hb hd => takes_off (i := 7) (d := 65) (b := false) rfl rfl rfl (hd 7 (by simp) _ rfl) trivial⟩
        · exact ⟨rfl, AnyR.mono, fun a W hA hb hd => takes_off (i := 7) (d := 65) (b := false) rfl rfl rfl (hd 7 (by simp) _ rfl) trivial⟩
        · exact ⟨rfl, AnyR.mono, fun a W hA hb hd => takes_off (i := 7) (d := 65) (b := false) rfl rfl rfl (hd 7 (by simp) _ rfl) trivial⟩
        · exact ⟨rfl, AnyR.mono, fun a W hA hb hd => takes_off (i := 7) (d := 65) (b := false) rfl rfl rfl (hd 7 (by simp) _ rfl) trivial⟩
        · exact ⟨rfl, AnyR.mono, fun a W hA hb hd => takes_off (i := 7) (d := 65) (b := false) rfl rfl rfl (hd 7 (by simp) _ rfl) trivial⟩
        · exact ⟨rfl, AnyR.mono, fun a W hA hb hd => takes_off (i := 7) (d := 65) (b := false) rfl rfl rfl (hd 7 (by simp) _ rfl) trivial⟩
        · exact ⟨rfl, AnyR.mono, fun a W hA hb hd => takes_off (i := 7) (d := 65) (b := false) rfl rfl rfl (hd 7 (by simp) _ rfl) trivial⟩
        · exact ⟨rfl, AnyR.mono, fun a W hA hb hd => takes_off (i := 7) (d := 65) (b := false) rfl rfl rfl (hd 7 (by simp) _ rfl) trivial⟩
        · exact ⟨rfl, AnyR.mono, fun a W hA hb hd => takes_off (i := 7) (d := 65) (b := false) rfl rfl rfl (hd 7 (by simp) _ rfl) trivial⟩
        intro vs wk hR hF hb
        have e58 : vs 58 = .slice (some x) n c := hR 0 _ rfl
        have e59 : vs 59 = .int .i64 (i : Int) := hR 1 _ rfl
        have e60 : vs 60 = .pointer (some (x.add (i * 3))) := hR 2 _ rfl
        have e61 : vs 61 = .pointer (some ((x.add (i * 3)).add 2)) := hR 3 _ rfl
        have e62 : vs 62 = .slice q.a q.n q.c := hR 4 _ rfl
        have e63 : vs 63 = .int .i64 (q.n : Int) := hR 5 _ rfl
        have e64 : vs 64 = .bool true := hR 6 _ rfl
        have e65 : vs 65 = .bool true := hR 7 _ rfl
        simp only [List.map_cons, List.map_nil, List.foldl_cons, List.foldl_nil, List.length_cons, List.length_nil, List.drop_succ_cons, List.drop_zero, Act.put, List.setIfInBounds_toArray, List.set_cons_zero, List.set_cons_succ, e58, e59, e60, e61, e62, e63, e64, e65]
        generalize vs 66 = q66
        generalize vs 67 = q67
        generalize vs 68 = q68
        generalize vs 69 = q69
        generalize vs 70 = q70
        generalize vs 71 = q71
        generalize vs 72 = q72
        generalize vs 73 = q73
        generalize vs 74 = q74
        generalize vs 75 = q75
        generalize vs 76 = q76
        generalize vs 77 = q77
        generalize vs 78 = q78
        generalize vs 79 = q79
        generalize vs 80 = q80
        generalize vs 81 = q81
        generalize vs 82 = q82
        generalize vs 83 = q83
        generalize vs 84 = q84
        generalize vs 85 = q85
        generalize vs 86 = q86
        generalize vs 87 = q87
        generalize vs 88 = q88
        generalize vs 89 = q89
        generalize vs 90 = q90
        generalize vs 91 = q91
        generalize vs 92 = q92
        generalize vs 93 = q93
        generalize vs 94 = q94
        generalize vs 95 = q95
        generalize vs 96 = q96
        generalize vs 97 = q97
        generalize vs 98 = q98
        generalize vs 99 = q99
        have BK := Lib.hid (below_tr BW.out (below_tr HB.out hb HB.out.size) BW.out.size)
        clear hR hF hb
        go_wp2_with fail
        refine (HK.out _).mono ?_
        rintro e wz ⟨rfl, hb⟩
        have BZ := Lib.hid (below_tr BK.out hb BK.out.size)
        clear hb
        go_wp2_with fail
        go_ret
        exact ⟨rfl, BZ.out⟩
      · have h64' : ¬ (64 : Int) < (q.n : Int) := by omega
        have N64 := Lib.hid h64
        clear h64
        obtain ⟨L, hL⟩ : ∃ L, L = foldK [] (ks.take i) := ⟨_, rfl⟩
        rw [← hL] at HT
        have HLL : Hid (L.length ≤ 1000) := Lib.hid (by
          have h1 := foldK_len (ks.take i) []
          have h2 := List.length_take_le i ks
          have h3 := List.length_take_le' i ks
          have h4 := N60.out
          have h5 := K2.out.len
          rw [List.length_nil, ← hL] at h1
          omega)
        have HS : Hid ((addP (q.t, q.g) q.k L).2 = foldK [] (ks.take (i + 1))) := Lib.hid (by
          rw [List.take_add_one, HQ.out, Option.toList_some, foldK_snoc, hL])
        clear hL
        refine wp_wide6 (fun W => Below w2.heap.size w2 W) (PreK w2.heap.size g m w3.heap.size L) (StepK w2.heap.size g m w3.heap.size) [⟨58, IsR (.slice (some x) n c), [], false⟩, ⟨59, IsR (.int .i64 (i : Int)), [], false⟩, ⟨60, IsR (.pointer (some (x.add (i * 3)))), [0, 1], false⟩, ⟨61, IsR (.pointer (some ((x.add (i * 3)).add 2))), [2], false⟩, ⟨62, IsR (.slice q.a q.n q.c), [3], false⟩, ⟨63, IsR (.int .i64 (q.n : Int)), [4], false⟩, ⟨64, IsR (.bool false), [5], false⟩, ⟨65, IsR (.bool false), [6], false⟩, ⟨66, IsR (.pointer (some ⟨g, 0, none⟩)), [7], false⟩, ⟨67, IsR (.slice (some x) n c), [7], false⟩, ⟨68, IsR (.int .i64 (i : Int)), [7], false⟩, ⟨69, IsR (.pointer (some (x.add (i * 3)))), [7, 9, 10], false⟩, ⟨70, IsR (.pointer (some (x.add (i * 3)))), [7, 11], false⟩, ⟨71, IsR (.int .u32 (q.t : Int)), [7, 12], false⟩, ⟨72, IsR (.slice (some x) n c), [7], false⟩, ⟨73, IsR (.int .i64 (i : Int)), [7], false⟩, ⟨74, IsR (.pointer (some (x.add (i * 3)))), [7, 14, 15], false⟩, ⟨75, IsR (.pointer (some ((x.add (i * 3)).add 1))), [7, 16], false⟩, ⟨76, IsR (.int .u16 (q.g : Int)), [7, 17], false⟩, ⟨77, IsR (.slice (some x) n c), [7], false⟩, ⟨78, IsR (.int .i64 (i : Int)), [7], false⟩, ⟨79, IsR (.pointer (some (x.add (i * 3)))), [7, 19, 20], false⟩, ⟨80, IsR (.pointer (some ((x.add (i * 3)).add 2))), [7, 21], false⟩, ⟨81, IsR (.slice q.a q.n q.c), [7, 22], false⟩, ⟨82, (fun z W => z = .int .i64 ((addP (q.t, q.g) q.k L).1 : Int) ∧ RgB W w2.heap.size g m (addP (q.t, q.g) q.k L).2), [7, 8, 13, 18, 23], false⟩, ⟨83, IsR (.slice (some x) n c), [7], false⟩, ⟨84, IsR (.int .i64 (i : Int)), [7], false⟩, ⟨85, IsR (.pointer (some (x.add (i * 3)))), [7, 25, 26], false⟩, ⟨86, IsR (.pointer (some (x.add (i * 3)))), [7, 27], false⟩, ⟨87, IsR (.int .u32 (q.t : Int)), [7, 28], false⟩, ⟨88, IsR (.slice (some x) n c), [7], false⟩, ⟨89, IsR (.int .i64 (i : Int)), [7], false⟩, ⟨90, IsR (.pointer (some (x.add (i * 3)))), [7, 30, 31], false⟩, ⟨91, IsR (.pointer (some ((x.add (i * 3)).add 1))), [7, 32], false⟩, ⟨92, IsR (.int .u16 (q.g : Int)), [7, 33], false⟩, ⟨93, IsR (.slice (some x) n c), [7], false⟩, ⟨94, IsR (.int .i64 (i : Int)), [7], false⟩, ⟨95, IsR (.pointer (some (x.add (i * 3)))), [7, 35, 36], false⟩, ⟨96, IsR (.pointer (some ((x.add (i * 3)).add 2))), [7, 37], false⟩, ⟨97, IsR (.slice q.a q.n q.c), [7, 38], false⟩, ⟨98, (fun z W => z = .int .i64 ((addP (q.t, q.g) q.k L).1 : Int) ∧ ∃ v vs, RkB W w2.heap.size w3.heap.size v vs (addP (q.t, q.g) q.k L).2), [7, 29, 34, 39], false⟩, ⟨99, IsR (.bool false), [7, 24, 40], false⟩] rfl (by kernel_rfl) (by kernel_rfl) rfl rfl stepK_pre (fun i W W1 h1 h2 => stepK_below B3.out.size h1 h2) (fun i W => .inl (Below.refl _ _)) (fun j => ⟨fun _ => HT.out.1.ab (Below.refl _ _).drew, fun _ => by obtain ⟨v, vs, h⟩ := HT.out.2; exact ⟨v, vs, h.ab (Below.refl _ _).drew⟩⟩) HB.out.drew ⟨?_, ?_, ?_, ?_, ?_, ?_, ?_, ?_, ?_, ?_, ?_, ?_, ?_, ?_, ?_, ?_, ?_, ?_, ?_, ?_, ?_, ?_, ?_, ?_, ?_, ?_, ?_, ?_, ?_, ?_, ?_, ?_, ?_, ?_, ?_, ?_, ?_, ?_, ?_, ?_, ?_, ?_, trivial⟩ ?_
        · refine ⟨rfl, fun j hj v W W1 h hs => h, fun a W hA hb hp hd => Takes.to6 (takes_plain rfl (yields_value _ ?_ rfl)) fun W1 h1 => .inl h1⟩
          have h1 : a.tmps[1]?.getD undef = .slice (some x) n c := (eval_get a 1).trans ((hA.eval (by simp)).trans rfl)
          go_simp
        · refine ⟨rfl, fun j hj v W W1 h hs => h, fun a W hA hb hp hd => Takes.to6 (takes_plain rfl (yields_value _ ?_ rfl)) fun W1 h1 => .inl h1⟩
          have h11 : a.tmps[11]?.getD undef = .int .i64 (i : Int) := (eval_get a 11).trans ((hA.eval (by simp)).trans rfl)
          go_simp
        · refine ⟨rfl, fun j hj v W W1 h hs => h, fun a W hA hb hp hd => Takes.to6 (takes_plain rfl (yields_value _ ?_ rfl)) fun W1 h1 => .inl h1⟩
          have h58 : a.tmps[58]?.getD undef = .slice (some x) n c := (eval_get a 58).trans (hd 0 (by simp) _ rfl)
          have h59 : a.tmps[59]?.getD undef = .int .i64 (i : Int) := (eval_get a 59).trans (hd 1 (by simp) _ rfl)
          go_simp
        · refine ⟨rfl, fun j hj v W W1 h hs => h, fun a W hA hb hp hd => Takes.to6 (takes_plain rfl (yields_value _ ?_ rfl)) fun W1 h1 => .inl h1⟩
          have h60 : a.tmps[60]?.getD undef = .pointer (some (x.add (i * 3))) := (eval_get a 60).trans (hd 2 (by simp) _ rfl)
          go_simp
        · refine ⟨rfl, fun j hj v W W1 h hs => h, fun a W hA hb hp hd => Takes.to6 (takes_plain rfl (yields_value _ ?_ rfl)) fun W1 h1 => .inl h1⟩
          have h61 : a.tmps[61]?.getD undef = .pointer (some ((x.add (i * 3)).add 2)) := (eval_get a 61).trans (hd 3 (by simp) _ rfl)
          have hc : W.cell? (⟨(x.add (i * 3)).block, (x.add (i * 3)).off + 2, none⟩) = some (.slice q.a q.n q.c) := keep_cell2 C2.out XL.out hb
          go_simp
        · refine ⟨rfl, fun j hj v W W1 h hs => h, fun a W hA hb hp hd => Takes.to6 (takes_plain rfl (yields_value _ ?_ rfl)) fun W1 h1 => .inl h1⟩
          have h62 : a.tmps[62]?.getD undef = .slice q.a q.n q.c := (eval_get a 62).trans (hd 4 (by simp) _ rfl)
          go_simp
        · refine ⟨rfl, fun j hj v W W1 h hs => h, fun a W hA hb hp hd => Takes.to6 (takes_plain rfl (yields_value _ ?_ rfl)) fun W1 h1 => .inl h1⟩
          have h63 : a.tmps[63]?.getD undef = .int .i64 (q.n : Int) := (eval_get a 63).trans (hd 5 (by simp) _ rfl)
          go_simp
        · refine ⟨rfl, fun j hj v W W1 h hs => h, fun a W hA hb hp hd => Takes.to6 (takes_plain rfl (yields_value _ ?_ rfl)) fun W1 h1 => .inl h1⟩
          have h64 : a.tmps[64]?.getD undef = .bool false := (eval_get a 64).trans (hd 6 (by simp) _ rfl)
          go_simp
        · refine ⟨rfl, fun j hj v W W1 h hs => h, fun a W hA hb hp hd => Takes.to6 (takes_on (i := 7) (d := 65) (b := false) rfl rfl rfl (hd 7 (by simp) _ rfl) (yields_value _ ?_ rfl)) fun W1 h1 => .inl h1⟩
          have h9 : a.tmps[9]?.getD undef = .pointer (some ⟨g, 0, none⟩) := (eval_get a 9).trans ((hA.eval (by simp)).trans rfl)
          go_simp
        · refine ⟨rfl, fun j hj v W W1 h hs => h, fun a W hA hb hp hd => Takes.to6 (takes_on (i := 7) (d := 65) (b := false) rfl rfl rfl (hd 7 (by simp) _ rfl) (yields_value _ ?_ rfl)) fun W1 h1 => .inl h1⟩
          have h1 : a.tmps[1]?.getD undef = .slice (some x) n c := (eval_get a 1).trans ((hA.eval (by simp)).trans rfl)
          go_simp
        · refine ⟨rfl, fun j hj v W W1 h hs => h, fun a W hA hb hp hd => Takes.to6 (takes_on (i := 7) (d := 65) (b := false) rfl rfl rfl (hd 7 (by simp) _ rfl) (yields_value _ ?_ rfl)) fun W1 h1 => .inl h1⟩
          have h11 : a.tmps[11]?.getD undef = .int .i64 (i : Int) := (eval_get a 11).trans ((hA.eval (by simp)).trans rfl)
          go_simp
        · refine ⟨rfl, fun j hj v W W1 h hs => h, fun a W hA hb hp hd => Takes.to6 (takes_on (i := 7) (d := 65) (b := false) rfl rfl rfl (hd 7 (by simp) _ rfl) (yields_value _ ?_ rfl)) fun W1 h1 => .inl h1⟩
          have h67 : a.tmps[67]?.getD undef = .slice (some x) n c := (eval_get a 67).trans (hd 9 (by simp) _ rfl)
          have h68 : a.tmps[68]?.getD undef = .int .i64 (i : Int) := (eval_get a 68).trans (hd 10 (by simp) _ rfl)
          go_simp
        · refine ⟨rfl, fun j hj v W W1 h hs => h, fun a W hA hb hp hd => Takes.to6 (takes_on (i := 7) (d := 65) (b := false) rfl rfl rfl (hd 7 (by simp) _ rfl) (yields_value _ ?_ rfl)) fun W1 h1 => .inl h1⟩
          have h69 : a.tmps[69]?.getD undef = .pointer (some (x.add (i * 3))) := (eval_get a 69).trans (hd 11 (by simp) _ rfl)
          go_simp
        · refine ⟨rfl, fun j hj v W W1 h hs => h, fun a W hA hb hp hd => Takes.to6 (takes_on (i := 7) (d := 65) (b := false) rfl rfl rfl (hd 7 (by simp) _ rfl) (yields_value _ ?_ rfl)) fun W1 h1 => .inl h1⟩
          have h70 : a.tmps[70]?.getD undef = .pointer (some (x.add (i * 3))) := (eval_get a 70).trans (hd 12 (by simp) _ rfl)
          have hc : W.cell? (x.add (i * 3)) = some (.int .u32 (q.t : Int)) := keep_cell C0.out XL.out hb
          go_simp
        · refine ⟨rfl, fun j hj v W W1 h hs => h, fun a W hA hb hp hd => Takes.to6 (takes_on (i := 7) (d := 65) (b := false) rfl rfl rfl (hd 7 (by simp) _ rfl) (yields_value _ ?_ rfl)) fun W1 h1 => .inl h1⟩
          have h1 : a.tmps[1]?.getD undef = .slice (some x) n c := (eval_get a 1).trans ((hA.eval (by simp)).trans rfl)
          go_simp
        · refine ⟨rfl, fun j hj v W W1 h hs => h, fun a W hA hb hp hd => Takes.to6 (takes_on (i := 7) (d := 65) (b := false) rfl rfl rfl (hd 7 (by simp) _ rfl) (yields_value _ ?_ rfl)) fun W1 h1 => .inl h1⟩
          have h11 : a.tmps[11]?.getD undef = .int .i64 (i : Int) := (eval_get a 11).trans ((hA.eval (by simp)).trans rfl)
          go_simp
        · refine ⟨rfl, fun j hj v W W1 h hs => h, fun a W hA hb hp hd => Takes.to6 (takes_on (i := 7) (d := 65) (b := false) rfl rfl rfl (hd 7 (by simp) _ rfl) (yields_value _ ?_ rfl)) fun W1 h1 => .inl h1⟩
          have h72 : a.tmps[72]?.getD undef = .slice (some x) n c := (eval_get a 72).trans (hd 14 (by simp) _ rfl)
          have h73 : a.tmps[73]?.getD undef = .int .i64 (i : Int) := (eval_get a 73).trans (hd 15 (by simp) _ rfl)
          go_simp
        · refine ⟨rfl, fun j hj v W W1 h hs => h, fun a W hA hb hp hd => Takes.to6 (takes_on (i := 7) (d := 65) (b := false) rfl rfl rfl (hd 7 (by simp) _ rfl) (yields_value _ ?_ rfl)) fun W1 h1 => .inl h1⟩
          have h74 : a.tmps[74]?.getD undef = .pointer (some (x.add (i * 3))) := (eval_get a 74).trans (hd 16 (by simp) _ rfl)
          go_simp
        · refine ⟨rfl, fun j hj v W W1 h hs => h, fun a W hA hb hp hd => Takes.to6 (takes_on (i := 7) (d := 65) (b := false) rfl rfl rfl (hd 7 (by simp) _ rfl) (yields_value _ ?_ rfl)) fun W1 h1 => .inl h1⟩
          have h75 : a.tmps[75]?.getD undef = .pointer (some ((x.add (i * 3)).add 1)) := (eval_get a 75).trans (hd 17 (by simp) _ rfl)
          have hc : W.cell? (⟨(x.add (i * 3)).block, (x.add (i * 3)).off + 1, none⟩) = some (.int .u16 (q.g : Int)) := keep_cell2 C1.out XL.out hb
          go_simp
        · refine ⟨rfl, fun j hj v W W1 h hs => h, fun a W hA hb hp hd => Takes.to6 (takes_on (i := 7) (d := 65) (b := false) rfl rfl rfl (hd 7 (by simp) _ rfl) (yields_value _ ?_ rfl)) fun W1 h1 => .inl h1⟩
          have h1 : a.tmps[1]?.getD undef = .slice (some x) n c := (eval_get a 1).trans ((hA.eval (by simp)).trans rfl)
          go_simp
        · refine ⟨rfl, fun j hj v W W1 h hs => h, fun a W hA hb hp hd => Takes.to6 (takes_on (i := 7) (d := 65) (b := false) rfl rfl rfl (hd 7 (by simp) _ rfl) (yields_value _ ?_ rfl)) fun W1 h1 => .inl h1⟩
          have h11 : a.tmps[11]?.getD undef = .int .i64 (i : Int) := (eval_get a 11).trans ((hA.eval (by simp)).trans rfl)
          go_simp
        · refine ⟨rfl, fun j hj v W W1 h hs => h, fun a W hA hb hp hd => Takes.to6 (takes_on (i := 7) (d := 65) (b := false) rfl rfl rfl (hd 7 (by simp) _ rfl) (yields_value _ ?_ rfl)) fun W1 h1 => .inl h1⟩
          have h77 : a.tmps[77]?.getD undef = .slice (some x) n c := (eval_get a 77).trans (hd 19 (by simp) _ rfl)
          have h78 : a.tmps[78]?.getD undef = .int .i64 (i : Int) := (eval_get a 78).trans (hd 20 (by simp) _ rfl)
          go_simp
        · refine ⟨rfl, fun j hj v W W1 h hs => h, fun a W hA hb hp hd => Takes.to6 (takes_on (i := 7) (d := 65) (b := false) rfl rfl rfl (hd 7 (by simp) _ rfl) (yields_value _ ?_ rfl)) fun W1 h1 => .inl h1⟩
          have h79 : a.tmps[79]?.getD undef = .pointer (some (x.add (i * 3))) := (eval_get a 79).trans (hd 21 (by simp) _ rfl)
          go_simp
        · refine ⟨rfl, fun j hj v W W1 h hs => h, fun a W hA hb hp hd => Takes.to6 (takes_on (i := 7) (d := 65) (b := false) rfl rfl rfl (hd 7 (by simp) _ rfl) (yields_value _ ?_ rfl)) fun W1 h1 => .inl h1⟩
          have h80 : a.tmps[80]?.getD undef = .pointer (some ((x.add (i * 3)).add 2)) := (eval_get a 80).trans (hd 22 (by simp) _ rfl)
          have hc : W.cell? (⟨(x.add (i * 3)).block, (x.add (i * 3)).off + 2, none⟩) = some (.slice q.a q.n q.c) := keep_cell2 C2.out XL.out hb
          go_simp
        · refine ⟨rfl, fun j hj v W W1 h hs => ⟨h.1, stepK_rg hj hs h.2⟩, fun a W hA hb hp hd => takes6_on (i := 7) (d := 65) (b := false) rfl rfl rfl (hd 7 (by simp) _ rfl) ?_⟩
          have h66 : a.tmps[66]?.getD undef = .pointer (some ⟨g, 0, none⟩) := (eval_get a 66).trans (hd 8 (by simp) _ rfl)
          have h71 : a.tmps[71]?.getD undef = .int .u32 (q.t : Int) := (eval_get a 71).trans (hd 13 (by simp) _ rfl)
          have h76 : a.tmps[76]?.getD undef = .int .u16 (q.g : Int) := (eval_get a 76).trans (hd 18 (by simp) _ rfl)
          have h81 : a.tmps[81]?.getD undef = .slice q.a q.n q.c := (eval_get a 81).trans (hd 23 (by simp) _ rfl)
          refine .inr ⟨16, #[.pointer (some ⟨g, 0, none⟩), .int .u32 (q.t : Int), .int .u16 (q.g : Int), .slice q.a q.n q.c], by go_simp, (ringAdd_any w2.heap.size g m q.t q.g q.n q.c q.a q.k L W (hp.1 rfl) QT.out QG.out (IK.out.below hb)).mono ?_⟩
          rintro e W1 ⟨rfl, h1, h2⟩
          exact ⟨_, rfl, ⟨rfl, h1⟩, .inr (.inl ⟨rfl, ⟨_, hp.1 rfl⟩, h2⟩)⟩
        · refine ⟨rfl, fun j hj v W W1 h hs => h, fun a W hA hb hp hd => Takes.to6 (takes_on (i := 7) (d := 65) (b := false) rfl rfl rfl (hd 7 (by simp) _ rfl) (yields_value _ ?_ rfl)) fun W1 h1 => .inl h1⟩
          have h1 : a.tmps[1]?.getD undef = .slice (some x) n c := (eval_get a 1).trans ((hA.eval (by simp)).trans rfl)
          go_simp
        · refine ⟨rfl, fun j hj v W W1 h hs => h, fun a W hA hb hp hd => Takes.to6 (takes_on (i := 7) (d := 65) (b := false) rfl rfl rfl (hd 7 (by simp) _ rfl) (yields_value _ ?_ rfl)) fun W1 h1 => .inl h1⟩
          have h11 : a.tmps[11]?.getD undef = .int .i64 (i : Int) := (eval_get a 11).trans ((hA.eval (by simp)).trans rfl)
          go_simp
        · refine ⟨rfl, fun j hj v W W1 h hs => h, fun a W hA hb hp hd => Takes.to6 (takes_on (i := 7) (d := 65) (b := false) rfl rfl rfl (hd 7 (by simp) _ rfl) (yields_value _ ?_ rfl)) fun W1 h1 => .inl h1⟩
          have h83 : a.tmps[83]?.getD undef = .slice (some x) n c := (eval_get a 83).trans (hd 25 (by simp) _ rfl)
          have h84 : a.tmps[84]?.getD undef = .int .i64 (i : Int) := (eval_get a 84).trans (hd 26 (by simp) _ rfl)
          go_simp
        · refine ⟨rfl, fun j hj v W W1 h hs => h, fun a W hA hb hp hd => Takes.to6 (takes_on (i := 7) (d := 65) (b := false) rfl rfl rfl (hd 7 (by simp) _ rfl) (yields_value _ ?_ rfl)) fun W1 h1 => .inl h1⟩
          have h85 : a.tmps[85]?.getD undef = .pointer (some (x.add (i * 3))) := (eval_get a 85).trans (hd 27 (by simp) _ rfl)
          go_simp
        · refine ⟨rfl, fun j hj v W W1 h hs => h, fun a W hA hb hp hd => Takes.to6 (takes_on (i := 7) (d := 65) (b := false) rfl rfl rfl (hd 7 (by simp) _ rfl) (yields_value _ ?_ rfl)) fun W1 h1 => .inl h1⟩
          have h86 : a.tmps[86]?.getD undef = .pointer (some (x.add (i * 3))) := (eval_get a 86).trans (hd 28 (by simp) _ rfl)
          have hc : W.cell? (x.add (i * 3)) = some (.int .u32 (q.t : Int)) := keep_cell C0.out XL.out hb
          go_simp
        · refine ⟨rfl, fun j hj v W W1 h hs => h, fun a W hA hb hp hd => Takes.to6 (takes_on (i := 7) (d := 65) (b := false) rfl rfl rfl (hd 7 (by simp) _ rfl) (yields_value _ ?_ rfl)) fun W1 h1 => .inl h1⟩
          have h1 : a.tmps[1]?.getD undef = .slice (some x) n c := (eval_get a 1).trans ((hA.eval (by simp)).trans rfl)
          go_simp
        · refine ⟨rfl, fun j hj v W W1 h hs => h, fun a W hA hb hp hd => Takes.to6 (takes_on (i := 7) (d := 65) (b := false) rfl rfl rfl (hd 7 (by simp) _ rfl) (yields_value _ ?_ rfl)) fun W1 h1 => .inl h1⟩
          have h11 : a.tmps[11]?.getD undef = .int .i64 (i : Int) := (eval_get a 11).trans ((hA.eval (by simp)).trans rfl)
          go_simp
        · refine ⟨rfl, fun j hj v W W1 h hs => h, fun a W hA hb hp hd => Takes.to6 (takes_on (i := 7) (d := 65) (b := false) rfl rfl rfl (hd 7 (by simp) _ rfl) (yields_value _ ?_ rfl)) fun W1 h1 => .inl h1⟩
          have h88 : a.tmps[88]?.getD undef = .slice (some x) n c := (eval_get a 88).trans (hd 30 (by simp) _ rfl)
          have h89 : a.tmps[89]?.getD undef = .int .i64 (i : Int) := (eval_get a 89).trans (hd 31 (by simp) _ rfl)
          go_simp
        · refine ⟨rfl, fun j hj v W W1 h hs => h, fun a W hA hb hp hd => Takes.to6 (takes_on (i := 7) (d := 65) (b := false) rfl rfl rfl (hd 7 (by simp) _ rfl) (yields_value _ ?_ rfl)) fun W1 h1 => .inl h1⟩
          have h90 : a.tmps[90]?.getD undef = .pointer (some (x.add (i * 3))) := (eval_get a 90).trans (hd 32 (by simp) _ rfl)
          go_simp
        · refine ⟨rfl, fun j hj v W W1 h hs => h, fun a W hA hb hp hd => Takes.to6 (takes_on (i := 7) (d := 65) (b := false) rfl rfl rfl (hd 7 (by simp) _ rfl) (yields_value _ ?_ rfl)) fun W1 h1 => .inl h1⟩
          have h91 : a.tmps[91]?.getD undef = .pointer (some ((x.add (i * 3)).add 1)) := (eval_get a 91).trans (hd 33 (by simp) _ rfl)
          have hc : W.cell? (⟨(x.add (i * 3)).block, (x.add (i * 3)).off + 1, none⟩) = some (.int .u16 (q.g : Int)) := keep_cell2 C1.out XL.out hb
          go_simp
        · refine ⟨rfl, fun j hj v W W1 h hs => h, fun a W hA hb hp hd => Takes.to6 (takes_on (i := 7) (d := 65) (b := false) rfl rfl rfl (hd 7 (by simp) _ rfl) (yields_value _ ?_ rfl)) fun W1 h1 => .inl h1⟩
          have h1 : a.tmps[1]?.getD undef = .slice (some x) n c := (eval_get a 1).trans ((hA.eval (by simp)).trans rfl)
          go_simp
        · refine ⟨rfl, fun j hj v W W1 h hs => h, fun a W hA hb hp hd => Takes.to6 (takes_on (i := 7) (d := 65) (b := false) rfl rfl rfl (hd 7 (by simp) _ rfl) (yields_value _ ?_ rfl)) fun W1 h1 => .inl h1⟩
          have h11 : a.tmps[11]?.getD undef = .int .i64 (i : Int) := (eval_get a 11).trans ((hA.eval (by simp)).trans rfl)
          go_simp
        · refine ⟨rfl, fun j hj v W W1 h hs => h, fun a W hA hb hp hd => Takes.to6 (takes_on (i := 7) (d := 65) (b := false) rfl rfl rfl (hd 7 (by simp) _ rfl) (yields_value _ ?_ rfl)) fun W1 h1 => .inl h1⟩
          have h93 : a.tmps[93]?.getD undef = .slice (some x) n c := (eval_get a 93).trans (hd 35 (by simp) _ rfl)
          have h94 : a.tmps[94]?.getD undef = .int .i64 (i : Int) := (eval_get a 94).trans (hd 36 (by simp) _ rfl)
          go_simp
        · refine ⟨rfl, fun j hj v W W1 h hs => h, fun a W hA hb hp hd => Takes.to6 (takes_on (i := 7) (d := 65) (b := false) rfl rfl rfl (hd 7 (by simp) _ rfl) (yields_value _ ?_ rfl)) fun W1 h1 => .inl h1⟩
          have h95 : a.tmps[95]?.getD undef = .pointer (some (x.add (i * 3))) := (eval_get a 95).trans (hd 37 (by simp) _ rfl)
          go_simp
        · refine ⟨rfl, fun j hj v W W1 h hs => h, fun a W hA hb hp hd => Takes.to6 (takes_on (i := 7) (d := 65) (b := false) rfl rfl rfl (hd 7 (by simp) _ rfl) (yields_value _ ?_ rfl)) fun W1 h1 => .inl h1⟩
          have h96 : a.tmps[96]?.getD undef = .pointer (some ((x.add (i * 3)).add 2)) := (eval_get a 96).trans (hd 38 (by simp) _ rfl)
          have hc : W.cell? (⟨(x.add (i * 3)).block, (x.add (i * 3)).off + 2, none⟩) = some (.slice q.a q.n q.c) := keep_cell2 C2.out XL.out hb
          go_simp
        · refine ⟨rfl, fun j hj v W W1 h hs => ⟨h.1, stepK_rk hj hs h.2⟩, fun a W hA hb hp hd => takes6_on (i := 7) (d := 65) (b := false) rfl rfl rfl (hd 7 (by simp) _ rfl) ?_⟩
          have h10 : a.tmps[10]?.getD undef = .pointer (some ⟨w3.heap.size, 0, none⟩) := (eval_get a 10).trans ((hA.eval (by simp)).trans rfl)
          have h87 : a.tmps[87]?.getD undef = .int .u32 (q.t : Int) := (eval_get a 87).trans (hd 29 (by simp) _ rfl)
          have h92 : a.tmps[92]?.getD undef = .int .u16 (q.g : Int) := (eval_get a 92).trans (hd 34 (by simp) _ rfl)
          have h97 : a.tmps[97]?.getD undef = .slice q.a q.n q.c := (eval_get a 97).trans (hd 39 (by simp) _ rfl)
          obtain ⟨rv, rvs, hrk⟩ := hp.2 rfl
          refine .inr ⟨17, #[.pointer (some ⟨w3.heap.size, 0, none⟩), .int .u32 (q.t : Int), .int .u16 (q.g : Int), .slice q.a q.n q.c], by go_simp, (rkAdd_far w2.heap.size w3.heap.size q.t q.g rv rvs L q.a q.n q.c q.k w2 W hrk (Nat.le_refl _) QT.out QG.out HLL.out IK.out (IK.out.below hb)).mono ?_⟩
          rintro e W1 ⟨v1, vs1, rfl, h1, h2⟩
          exact ⟨_, rfl, ⟨rfl, v1, vs1, h1⟩, .inr (.inr ⟨rfl, rv, rvs, L, hrk, h2⟩)⟩
        · refine ⟨rfl, fun j hj v W W1 h hs => h, fun a W hA hb hp hd => Takes.to6 (takes_on (i := 7) (d := 65) (b := false) rfl rfl rfl (hd 7 (by simp) _ rfl) (yields_value _ ?_ rfl)) fun W1 h1 => .inl h1⟩
          have h41 : a.tmps[82]?.getD undef = .int .i64 ((addP (q.t, q.g) q.k L).1 : Int) := (eval_get a 82).trans (hd 24 (by simp) _ rfl).1
          have h57 : a.tmps[98]?.getD undef = .int .i64 ((addP (q.t, q.g) q.k L).1 : Int) := (eval_get a 98).trans (hd 40 (by simp) _ rfl).1
          go_simp
        intro vs wk hR hb
        have e58 : vs 58 = .slice (some x) n c := hR 0 _ rfl
        have e59 : vs 59 = .int .i64 (i : Int) := hR 1 _ rfl
        have e60 : vs 60 = .pointer (some (x.add (i * 3))) := hR 2 _ rfl
        have e61 : vs 61 = .pointer (some ((x.add (i * 3)).add 2)) := hR 3 _ rfl
        have e62 : vs 62 = .slice q.a q.n q.c := hR 4 _ rfl
        have e63 : vs 63 = .int .i64 (q.n : Int) := hR 5 _ rfl
        have e64 : vs 64 = .bool false := hR 6 _ rfl
        have e65 : vs 65 = .bool false := hR 7 _ rfl
        have e66 : vs 66 = .pointer (some ⟨g, 0, none⟩) := hR 8 _ rfl
        have e67 : vs 67 = .slice (some x) n c := hR 9 _ rfl
        have e68 : vs 68 = .int .i64 (i : Int) := hR 10 _ rfl
        have e69 : vs 69 = .pointer (some (x.add (i * 3))) := hR 11 _ rfl
        have e70 : vs 70 = .pointer (some (x.add (i * 3))) := hR 12 _ rfl
        have e71 : vs 71 = .int .u32 (q.t : Int) := hR 13 _ rfl
        have e72 : vs 72 = .slice (some x) n c := hR 14 _ rfl
        have e73 : vs 73 = .int .i64 (i : Int) := hR 15 _ rfl
        have e74 : vs 74 = .pointer (some (x.add (i * 3))) := hR 16 _ rfl
        have e75 : vs 75 = .pointer (some ((x.add (i * 3)).add 1)) := hR 17 _ rfl
        have e76 : vs 76 = .int .u16 (q.g : Int) := hR 18 _ rfl
        have e77 : vs 77 = .slice (some x) n c := hR 19 _ rfl
        have e78 : vs 78 = .int .i64 (i : Int) := hR 20 _ rfl
        have e79 : vs 79 = .pointer (some (x.add (i * 3))) := hR 21 _ rfl
        have e80 : vs 80 = .pointer (some ((x.add (i * 3)).add 2)) := hR 22 _ rfl
        have e81 : vs 81 = .slice q.a q.n q.c := hR 23 _ rfl
        have e82 : vs 82 = .int .i64 ((addP (q.t, q.g) q.k L).1 : Int) := (hR 24 _ rfl).1
        have e83 : vs 83 = .slice (some x) n c := hR 25 _ rfl
        have e84 : vs 84 = .int .i64 (i : Int) := hR 26 _ rfl
        have e85 : vs 85 = .pointer (some (x.add (i * 3))) := hR 27 _ rfl
        have e86 : vs 86 = .pointer (some (x.add (i * 3))) := hR 28 _ rfl
        have e87 : vs 87 = .int .u32 (q.t : Int) := hR 29 _ rfl
        have e88 : vs 88 = .slice (some x) n c := hR 30 _ rfl
        have e89 : vs 89 = .int .i64 (i : Int) := hR 31 _ rfl
        have e90 : vs 90 = .pointer (some (x.add (i * 3))) := hR 32 _ rfl
        have e91 : vs 91 = .pointer (some ((x.add (i * 3)).add 1)) := hR 33 _ rfl
        have e92 : vs 92 = .int .u16 (q.g : Int) := hR 34 _ rfl
        have e93 : vs 93 = .slice (some x) n c := hR 35 _ rfl
        have e94 : vs 94 = .int .i64 (i : Int) := hR 36 _ rfl
        have e95 : vs 95 = .pointer (some (x.add (i * 3))) := hR 37 _ rfl
        have e96 : vs 96 = .pointer (some ((x.add (i * 3)).add 2)) := hR 38 _ rfl
        have e97 : vs 97 = .slice q.a q.n q.c := hR 39 _ rfl
        have e98 : vs 98 = .int .i64 ((addP (q.t, q.g) q.k L).1 : Int) := (hR 40 _ rfl).1
        have e99 : vs 99 = .bool false := hR 41 _ rfl
        simp only [List.map_cons, List.map_nil, List.foldl_cons, List.foldl_nil, List.length_cons, List.length_nil, List.drop_succ_cons, List.drop_zero, Act.put, List.setIfInBounds_toArray, List.set_cons_zero, List.set_cons_succ, e58, e59, e60, e61, e62, e63, e64, e65, e66, e67, e68, e69, e70, e71, e72, e73, e74, e75, e76, e77, e78, e79, e80, e81, e82, e83, e84, e85, e86, e87, e88, e89, e90, e91, e92, e93, e94, e95, e96, e97, e98, e99]
        have B5 := Lib.hid hb
        have T5 : Hid (Two w2.heap.size g m w3.heap.size (foldK [] (ks.take (i + 1))) wk) := Lib.hid (by
          rw [← HS.out]
          exact ⟨(hR 24 _ rfl).2, (hR 40 _ rfl).2⟩)
        clear hR hb
        go_wp2_with fail
        go_roundw
        case rel => exact ⟨i + 1, HL.out, by go_num, B5.out, T5.out⟩
        case measure => simp [intOf]; have := HL.out; omega
    · obtain rfl : i = n := by omega
      have hlenl : (foldK [] (ks.take i)).length ≤ 60 := by
        have := foldK_len (ks.take i) []
        have h2 := List.length_take_le i ks
        have h3 := N60.out
        rw [List.length_nil] at this
        omega
      obtain ⟨l, hl⟩ : ∃ l, l = foldK [] (ks.take i) := ⟨_, rfl⟩
      rw [← hl] at hT hlenl
      have T5 := Lib.hid hT
      have L60 := Lib.hid hlenl
      have GB := Lib.hid (Nat.le_trans B3.out.size (Nat.le_refl _))
      have D5 := Lib.hid (D2.out.ab hb)
      have R5 : Hid (RsB wr r d 200 0 0) := Lib.hid (by have h : CbB w2 r 166 _ := R2.out; exact h.ab hb)
      have X5 := Lib.hid (X2.out.ab hb)
      have M0 := Lib.hid (J0.out.ab hb)
      have M1 := Lib.hid (J1.out.ab hb)
      have B5 := Lib.hid (below_tr BW.out hb BW.out.size)
      have E5 := Lib.hid (Nat.le_trans B2.out.size hb.size)
      have Z5 := Lib.hid hb.size
      clear hlt hi hT hb hl hlenl D2 R2 X2 J0 J1 R3 K2
      generalize w3.heap.size = g2r at *
      go_wp2_with fail
      refine (rdNew_any wr).mono ?_
      rintro e w6 ⟨g3, v1, v2, b1, b2, rfl, hd, hl1, hl2, hb⟩
      have T6 : Hid (Stt w.heap.size d g1 g2 r g3 v1 v2 b1 b2 w wr 0 0 0 (-1) false (zeros 2048) w6) := Lib.hid ⟨D5.out.ab hb, (by have h : CbB wr r 166 _ := R5.out; exact h.ab hb), hd, Fr.of hb _, below_tr B5.out hb B5.out.size, B5.out.size⟩
      have LB := Lib.hid (And.intro hl1 hl2)
      have NB : Hid (¬ (w.heap.size = d ∨ w.heap.size = r ∨ w.heap.size = g1 ∨ w.heap.size = g2)) := Lib.hid (by have := LOW.out; have := RLOW.out; omega)
      have LT5 : Hid (d < wr.heap.size ∧ g1 < wr.heap.size ∧ g2 < wr.heap.size ∧ r < wr.heap.size) := Lib.hid (by have := D5.out.lt; have h : CbB wr r 166 _ := R5.out; have := h.lt; omega)
      have RNE : Hid (r ≠ d ∧ r ≠ g1 ∧ r ≠ g2) := Lib.hid (by have := RL.out; omega)
      clear hd hl1 hl2 hb D5 R5
      go_wp2_with fail
      go_loopw [104] (fun j wx => ∃ i : Nat, i ≤ 2 ∧ j = .int .i64 (i : Int) ∧ ∃ L, Stt w.heap.size d g1 g2 r g3 v1 v2 b1 b2 w wr 0 0 0 (-1) false L wx) (fun j _ => 2 - (intOf j).toNat)
      case atStart => exact ⟨0, by decide, rfl, _, T6.out⟩
      case round =>
        rename World => wx
        obtain ⟨k, hk, rfl, L, hS⟩ := hrel
        by_cases hlt : k < 2
        · have hlti : (k : Int) < 2 := by omega
          have hk0 : (0 : Int) ≤ (k : Int) := by omega
          obtain ⟨sa, sn, sc, ss, hcell, hib, hil⟩ : ∃ (sa : Option Addr) (sn sc : Nat) (ss : List Nat), wx.cell? ⟨w.heap.size, k, none⟩ = some (.slice sa sn sc) ∧ IsB wr sa sn sc ss ∧ (0 < sn → ∀ y, sa = some y → y.block < w.heap.size) := by
            have cx := X5.out.fr hS.fr NB.out
            have : k = 0 ∨ k = 1 := by omega
            rcases this with rfl | rfl
            · exact ⟨_, _, _, _, cx.cell (k := 0) rfl, M0.out, IL0.out⟩
            · exact ⟨_, _, _, _, cx.cell (k := 1) rfl, M1.out, IL1.out⟩
          have SS := Lib.hid hS
          have HC := Lib.hid hcell
          have IB : Hid (IsB wx sa sn sc ss) := Lib.hid (hib.frX hS.fr (fun h0 y hy e => by have := hil h0 y hy; have := LOW.out; have := RLOW.out; omega))
          have IL := Lib.hid hil
          have KL := Lib.hid hlt
          clear hS hcell hib hil hk hlt
          go_wp2_with fail
          refine wp_wide5 (fun q z => (q = 6 ∧ (z = g1 ∨ z = g2)) ∨ (q = 13 ∧ wr.heap.size ≤ z)) [⟨107, IsR (.pointer (some ⟨d, 0, none⟩)), [], false⟩, ⟨108, IsR (.int .i64 (k : Int)), [], false⟩, ⟨109, IsR (.int .i64 (k : Int)), [], false⟩, ⟨110, IsR (.pointer (some ⟨w.heap.size, 0, none⟩)), [], false⟩, ⟨111, IsR (.pointer (some ⟨w.heap.size, k, none⟩)), [2, 3], false⟩, ⟨112, IsR (.slice sa sn sc), [4], false⟩, ⟨113, (fun z W => z = .int .i64 (errF sn : Int) ∧ DkB W w.heap.size d g1 g2 0 (-1) false (putF L ss sn k)), [0, 1, 5], false⟩, ⟨114, IsR (.pointer (some ⟨g3, 0, none⟩)), [], false⟩, ⟨115, IsR (.int .i64 (k : Int)), [], false⟩, ⟨116, IsR (.int .i64 (k : Int)), [], false⟩, ⟨117, IsR (.pointer (some ⟨w.heap.size, 0, none⟩)), [], false⟩, ⟨118, IsR (.pointer (some ⟨w.heap.size, k, none⟩)), [9, 10], false⟩, ⟨119, IsR (.slice sa sn sc), [11], false⟩, ⟨120, (fun z W => z = .int .i64 (errF sn : Int) ∧ RdB W wr.heap.size g3 v1 v2 b1 b2 0 (-1) false (putF L ss sn k)), [7, 8, 12], false⟩] (by kernel_rfl) (by kernel_rfl) rfl rfl rfl ⟨?_, ?_, ?_, ?_, ?_, ?_, ?_, ?_, ?_, ?_, ?_, ?_, ?_, ?_, trivial⟩ ?_
          · refine ⟨rfl, IsR.monoF _ _, fun a W hA hb hd => Takes.to5 (takes_plain rfl (yields_value _ ?_ rfl)) _⟩
            have h5 : a.tmps[5]?.getD undef = .pointer (some ⟨d, 0, none⟩) := (eval_get a 5).trans ((hA.eval (by simp)).trans rfl)
            go_simp
          · refine ⟨rfl, IsR.monoF _ _, fun a W hA hb hd => Takes.to5 (takes_plain rfl (yields_value _ ?_ rfl)) _⟩
            have h13 : a.tmps[13]?.getD undef = .int .i64 (k : Int) := (eval_get a 13).trans ((hA.eval (by simp)).trans rfl)
            go_simp
          · refine ⟨rfl, IsR.monoF _ _, fun a W hA hb hd => Takes.to5 (takes_plain rfl (yields_value _ ?_ rfl)) _⟩
            have h13 : a.tmps[13]?.getD undef = .int .i64 (k : Int) := (eval_get a 13).trans ((hA.eval (by simp)).trans rfl)
            go_simp
          · refine ⟨rfl, IsR.monoF _ _, fun a W hA hb hd => Takes.to5 (takes_plain rfl (yields_value _ ?_ rfl)) _⟩
            have h2 : a.tmps[2]?.getD undef = .pointer (some ⟨w.heap.size, 0, none⟩) := (eval_get a 2).trans ((hA.eval (by simp)).trans rfl)
            go_simp
          · refine ⟨rfl, IsR.monoF _ _, fun a W hA hb hd => Takes.to5 (takes_plain rfl (yields_value _ ?_ rfl)) _⟩
            have h110 : a.tmps[110]?.getD undef = .pointer (some ⟨w.heap.size, 0, none⟩) := (eval_get a 110).trans (hd 3 (by simp) _ rfl)
            have h109 : a.tmps[109]?.getD undef = .int .i64 (k : Int) := (eval_get a 109).trans (hd 2 (by simp) _ rfl)
            go_simp
          · refine ⟨rfl, IsR.monoF _ _, fun a W hA hb hd => Takes.to5 (takes_plain rfl (yields_value _ ?_ rfl)) _⟩
            have h111 : a.tmps[111]?.getD undef = .pointer (some ⟨w.heap.size, k, none⟩) := (eval_get a 111).trans (hd 4 (by simp) _ rfl)
            have hc : W.cell? ⟨w.heap.size, k, none⟩ = some (.slice sa sn sc) := (World.cell?_of_block (hb.block w.heap.size (by have := X5.out.lt; have := SS.out.fr.size; omega) (by rintro ⟨j, _, h | h⟩ <;> (have := LOW.out; have := X5.out.lt; omega)))).trans HC.out
            go_simp
          · refine ⟨rfl, fun z W W1 h hf => ⟨h.1, h.2.fr hf (by rintro q ⟨j, hj, h | h⟩ <;> (have := LT5.out; omega))⟩, fun a W hA hb hd => takes5_plain rfl ?_⟩
            have h107 : a.tmps[107]?.getD undef = .pointer (some ⟨d, 0, none⟩) := (eval_get a 107).trans (hd 0 (by simp) _ rfl)
            have h108 : a.tmps[108]?.getD undef = .int .i64 (k : Int) := (eval_get a 108).trans (hd 1 (by simp) _ rfl)
            have h112 : a.tmps[112]?.getD undef = .slice sa sn sc := (eval_get a 112).trans (hd 5 (by simp) _ rfl)
            refine .inr ⟨19, #[.pointer (some ⟨d, 0, none⟩), .int .i64 (k : Int), .int .i64 0, .slice sa sn sc], by go_simp, (foreign_all w.heap.size d g1 g2 0 (-1) false L W k (by have := KL.out; omega) sa sn sc ss (SS.out.dev.fr hb (by rintro q ⟨j, hj, h | h⟩ <;> (have := LT5.out; omega))) (IB.out.frX hb (by rintro h0 y hy ⟨j, _, h | h⟩ <;> (have := IL.out h0 y hy; have := LOW.out; have := SS.out.le; omega))) (fun h0 y hy => by have := IL.out h0 y hy; have := LOW.out; omega)).mono ?_⟩
            rintro e W1 ⟨rfl, h1, h2⟩
            exact ⟨_, rfl, ⟨rfl, h1⟩, h2.imp fun q hq => .inl ⟨rfl, hq⟩⟩
          · refine ⟨rfl, IsR.monoF _ _, fun a W hA hb hd => Takes.to5 (takes_plain rfl (yields_value _ ?_ rfl)) _⟩
            have h12 : a.tmps[12]?.getD undef = .pointer (some ⟨g3, 0, none⟩) := (eval_get a 12).trans ((hA.eval (by simp)).trans rfl)
            go_simp
          · refine ⟨rfl, IsR.monoF _ _, fun a W hA hb hd => Takes.to5 (takes_plain rfl (yields_value _ ?_ rfl)) _⟩
            have h13 : a.tmps[13]?.getD undef = .int .i64 (k : Int) := (eval_get a 13).trans ((hA.eval (by simp)).trans rfl)
            go_simp
          · refine ⟨rfl, IsR.monoF _ _, fun a W hA hb hd => Takes.to5 (takes_plain rfl (yields_value _ ?_ rfl)) _⟩
            have h13 : a.tmps[13]?.getD undef = .int .i64 (k : Int) := (eval_get a 13).trans ((hA.eval (by simp)).trans rfl)
            go_simp
          · refine ⟨rfl, IsR.monoF _ _, fun a W hA hb hd => Takes.to5 (takes_plain rfl (yields_value _ ?_ rfl)) _⟩
            have h2 : a.tmps[2]?.getD undef = .pointer (some ⟨w.heap.size, 0, none⟩) := (eval_get a 2).trans ((hA.eval (by simp)).trans rfl)
            go_simp
          · refine ⟨rfl, IsR.monoF _ _, fun a W hA hb hd => Takes.to5 (takes_plain rfl (yields_value _ ?_ rfl)) _⟩
            have h117 : a.tmps[117]?.getD undef = .pointer (some ⟨w.heap.size, 0, none⟩) := (eval_get a 117).trans (hd 10 (by simp) _ rfl)
            have h116 : a.tmps[116]?.getD undef = .int .i64 (k : Int) := (eval_get a 116).trans (hd 9 (by simp) _ rfl)
            go_simp
          · refine ⟨rfl, IsR.monoF _ _, fun a W hA hb hd => Takes.to5 (takes_plain rfl (yields_value _ ?_ rfl)) _⟩
            have h118 : a.tmps[118]?.getD undef = .pointer (some ⟨w.heap.size, k, none⟩) := (eval_get a 118).trans (hd 11 (by simp) _ rfl)
            have hc : W.cell? ⟨w.heap.size, k, none⟩ = some (.slice sa sn sc) := (World.cell?_of_block (hb.block w.heap.size (by have := X5.out.lt; have := SS.out.fr.size; omega) (by rintro ⟨j, _, h | h⟩ <;> (have := LOW.out; have := X5.out.lt; omega)))).trans HC.out
            go_simp
          · refine ⟨rfl, fun z W W1 h hf => ⟨h.1, h.2.fr hf (by rintro q ⟨j, hj, h | h⟩ <;> (have := LT5.out; omega))⟩, fun a W hA hb hd => takes5_plain rfl ?_⟩
            have h114 : a.tmps[114]?.getD undef = .pointer (some ⟨g3, 0, none⟩) := (eval_get a 114).trans (hd 7 (by simp) _ rfl)
            have h115 : a.tmps[115]?.getD undef = .int .i64 (k : Int) := (eval_get a 115).trans (hd 8 (by simp) _ rfl)
            have h119 : a.tmps[119]?.getD undef = .slice sa sn sc := (eval_get a 119).trans (hd 12 (by simp) _ rfl)
            refine .inr ⟨20, #[.pointer (some ⟨g3, 0, none⟩), .int .i64 (k : Int), .int .i64 0, .slice sa sn sc], by go_simp, (rforeign_all wr.heap.size g3 v1 v2 b1 b2 0 (-1) false L W k (by have := KL.out; omega) sa sn sc ss (SS.out.ref.fr hb (by rintro q ⟨j, hj, h | h⟩ <;> (have := LT5.out; omega))) SS.out.dev.len SS.out.dev.byt LB.out.1 LB.out.2 (IB.out.frX hb (by rintro h0 y hy ⟨j, _, h | h⟩ <;> (have := IL.out h0 y hy; have := LOW.out; have := SS.out.le; omega))) (fun h0 y hy => by have := IL.out h0 y hy; have := SS.out.le; omega)).mono ?_⟩
            rintro e W1 ⟨rfl, h1, h2⟩
            exact ⟨_, rfl, ⟨rfl, h1⟩, h2.imp fun q hq => .inr ⟨rfl, hq⟩⟩
          intro vf w9 hR hb
          have e107 : vf 107 = .pointer (some ⟨d, 0, none⟩) := hR 0 _ rfl
          have e108 : vf 108 = .int .i64 (k : Int) := hR 1 _ rfl
          have e109 : vf 109 = .int .i64 (k : Int) := hR 2 _ rfl
          have e110 : vf 110 = .pointer (some ⟨w.heap.size, 0, none⟩) := hR 3 _ rfl
          have e111 : vf 111 = .pointer (some ⟨w.heap.size, k, none⟩) := hR 4 _ rfl
          have e112 : vf 112 = .slice sa sn sc := hR 5 _ rfl
          have e113 : vf 113 = .int .i64 (errF sn : Int) := (hR 6 _ rfl).1
          have e114 : vf 114 = .pointer (some ⟨g3, 0, none⟩) := hR 7 _ rfl
          have e115 : vf 115 = .int .i64 (k : Int) := hR 8 _ rfl
          have e116 : vf 116 = .int .i64 (k : Int) := hR 9 _ rfl
          have e117 : vf 117 = .pointer (some ⟨w.heap.size, 0, none⟩) := hR 10 _ rfl
          have e118 : vf 118 = .pointer (some ⟨w.heap.size, k, none⟩) := hR 11 _ rfl
          have e119 : vf 119 = .slice sa sn sc := hR 12 _ rfl
          have e120 : vf 120 = .int .i64 (errF sn : Int) := (hR 13 _ rfl).1
          simp only [List.map_cons, List.map_nil, List.foldl_cons, List.foldl_nil, List.length_cons, List.length_nil, List.drop_succ_cons, List.drop_zero, Act.put, List.setIfInBounds_toArray, List.set_cons_zero, List.set_cons_succ, e107, e108, e109, e110, e111, e112, e113, e114, e115, e116, e117, e118, e119, e120]
          have S9 : Hid (Stt w.heap.size d g1 g2 r g3 v1 v2 b1 b2 w wr 0 0 0 (-1) false (putF L ss sn k) w9) := Lib.hid (by
            have hg : CbB wx r 166 _ := SS.out.reg
            have hq : ∀ q, allF (fun q z => (q = 6 ∧ (z = g1 ∨ z = g2)) ∨ (q = 13 ∧ wr.heap.size ≤ z)) q → q = g1 ∨ q = g2 ∨ wr.heap.size ≤ q := by
              rintro q ⟨j, h | h⟩ <;> omega
            refine ⟨(hR 6 _ rfl).2, hg.fr hb (fun e => ?_), (hR 13 _ rfl).2, SS.out.fr.tr2 hb (fun q e hl => ?_), Fr.below hb (fun q e => ?_) SS.out.bel (by have := SS.out.dev.lt; have := SS.out.dev.low; omega), SS.out.le⟩
            · have := hq _ e; have := RNE.out; have := LT5.out; omega
            · have := hq _ e; omega
            · have := hq _ e; have := LOW.out; have := SS.out.le; omega)
          clear hR hb e107 e108 e109 e110 e111 e112 e113 e114 e115 e116 e117 e118 e119 e120
          go_wp2_with fail
          go_roundw
          case rel => exact ⟨k + 1, KL.out, by go_num, _, S9.out⟩
          case measure => simp [intOf]; have := KL.out; omega
        · obtain rfl : k = 2 := by omega
          have SS := Lib.hid hS
          clear hk hlt hS
          simp only [show ((2 : Nat) : Int) = 2 from rfl]
          go_wp2_with fail
          go_loopw [14] (fun z wy => ∃ q : Nat, (q = 0 ∨ (q : Int) ≤ xr) ∧ q ≤ 200 ∧ z = .int .i64 (q : Int) ∧ Stt w.heap.size d g1 g2 r g3 v1 v2 b1 b2 w wr (q : Int) (q : Int) 0 (-1) false L wy) (fun z _ => 200 - (intOf z).toNat)
          case atStart => exact ⟨0, .inl rfl, by decide, rfl, SS.out⟩
          case round =>
            rename World => wy
            obtain ⟨q, hq, hq2, rfl, hS3⟩ := hrel
            have cx2 := (X5.out.fr hS3.fr NB.out).cell (k := 2) rfl
            by_cases hlt : (q : Int) < xr
            · have HV := Lib.hid (reserve_any w.heap.size d g1 g2 (q : Int) L wy r 200 (q : Int) 0 hS3.dev (by omega) (by omega) hS3.reg RNE.out (by omega) (by have := R200.out; omega) (by decide))
              have S3 := Lib.hid hS3
              have QL := Lib.hid hlt
              have Q2 := Lib.hid R200.out
              have hq3 : (q : Int) ≤ 200 := by omega
              have hq4 : (0 : Int) ≤ (q : Int) := by omega
              clear hS3 hq
              go_wp2_with fail
              refine HV.out.mono ?_
              rintro e w10 ⟨rfl, h1, h2, h3⟩
              have S4 : Hid (Stt w.heap.size d g1 g2 r g3 v1 v2 b1 b2 w wr ((q + 1 : Nat) : Int) ((q + 1 : Nat) : Int) 0 (-1) false L w10) := Lib.hid (by
                rw [Int.natCast_add]
                exact ⟨h1, h2, S3.out.ref.fr h3 (fun y hy => by have := LT5.out; omega), S3.out.fr.tr2 h3 (fun y hy _ => by omega), Fr.below h3 (fun y hy => by have := LOW.out; have := RLOW.out; omega) S3.out.bel (by have := S3.out.dev.lt; have := S3.out.dev.low; omega), S3.out.le⟩)
              clear h1 h2 h3 HV S3 cx2
              go_wp2_with fail
              go_roundw
              case rel => exact ⟨q + 1, .inr (by have := QL.out; omega), by have := QL.out; have := Q2.out; omega, by go_num, S4.out⟩
              case measure => simp [intOf]; have := QL.out; have := Q2.out; omega
            · have S3 := Lib.hid hS3
              have hq4 : (0 : Int) ≤ (q : Int) := by omega
              have cx3 := (X5.out.fr hS3.fr NB.out).cell (k := 3) rfl
              have cx4 := (X5.out.fr hS3.fr NB.out).cell (k := 4) rfl
              clear hS3 hq
              go_upto_region 28 with (fail)
              by_cases hc0 : xc = 0
              · subst hc0
                have hz : decide ((0 : Int) < ((0 : Nat) : Int)) = false := by decide
                have S5 := S3
                clear S3 cx2
                cases xo
                · go_wp2_with fail
                  have SF := S5
                  clear S5
                  have HG := Lib.hid (T5.out.1.fr G3.out SF.out.fr (fun y hy _ => by have := RL.out; have := RG.out; omega))
                  obtain ⟨rv, rvs, hrk⟩ := T5.out.2
                  have HW := Lib.hid (hrk.fr SF.out.fr GB.out (fun y hy _ => by have := RL.out; have := RG.out; omega))
                  clear hrk
                  have HO := Lib.hid (vopen_all w.heap.size d g1 g2 _ _ L _ false r 200 _ 0 w2.heap.size g m l SF.out.dev SF.out.reg HG.out (by omega))
                  have HP := Lib.hid fun W h1 h2 => ropen_all wr.heap.size g3 v1 v2 b1 b2 0 (-1) false L W 0 w2.heap.size g2r rv rvs l h1 SF.out.dev.len SF.out.dev.byt LB.out.1 h2 (by have := L60.out; omega) (by omega)
                  have hq5 := fun W => eq_mp (opnA false l 0 L).m (opnA false l 0 L).m W
                  unfold opnV at HO HP
                  rw [mpv_lit] at HO HP
                  simp only [decide_true] at hq5
                  generalize opnA false l 0 L = DD at *
                  obtain ⟨⟨p0, p1, p2, p3, p4, p5, p6⟩, er⟩ := DD
                  simp only at HO HP hq5
                  refine HO.out.mono ?_
                  rintro e wa ⟨rfl, hb⟩
                  have E1 := Lib.hid (SF.out.ref.ab hb)
                  have W1 := Lib.hid (HW.out.ab hb)
                  have BA := Lib.hid (below_tr SF.out.bel hb SF.out.bel.size)
                  have cx3a := Lib.hid (((X5.out.fr SF.out.fr NB.out).ab hb).ab ((Below.refl _ _).alloc (Nat.le_refl _) (.cells (mpv ⟨p0, p1, p2, p3, p4, p5, p6⟩) 63)))
                  clear hb HO HG HW
                  have cx3 := cx3a.out.cell (k := 3) rfl
                  simp only [mpv_lit] at cx3
                  go_wp2_with fail
                  have ha3 : Below wa.heap.size wa (wa.alloc (.cells (mpv ⟨p0, p1, p2, p3, p4, p5, p6⟩) 63)) := (Below.refl _ _).alloc (Nat.le_refl _) _
                  have M3 := MpB.new wa ⟨p0, p1, p2, p3, p4, p5, p6⟩
                  refine (HP.out _ (E1.out.ab ha3) (W1.out.ab ha3)).mono ?_
                  rintro e wb ⟨rfl, hb⟩
                  have M4 := Lib.hid (M3.ab hb)
                  have B4 := Lib.hid (below_tr (below_tr BA.out ha3 BA.out.size) hb (below_tr BA.out ha3 BA.out.size).size)
                  clear hb ha3 M3 E1 W1 BA HP
                  go_upto_region 37 with (fail)
                  have ha4 : Below wb.heap.size wb (wb.alloc (.cells (mpv ⟨p0, p1, p2, p3, p4, p5, p6⟩) 63)) := (Below.refl _ _).alloc (Nat.le_refl _) _
                  have M5 := M4.out.ab ha4
                  have N5 := MpB.new wb ⟨p0, p1, p2, p3, p4, p5, p6⟩
                  obtain ⟨x0, x1, x2, x3, x4, x5, x6⟩ := M5.cells
                  obtain ⟨y0, y1, y2, y3, y4, y5, y6⟩ := N5.cells
                  simp only [mpv_lit] at x0 x1 x2 x3 x4 x5 x6 y0 y1 y2 y3 y4 y5 y6
                  have B5 := Lib.hid (below_tr B4.out ha4 B4.out.size)
                  clear ha4 M5 N5
                  go_wp2_with fail
                  refine (HK.out _).mono ?_
                  rintro e wz ⟨rfl, hb⟩
                  have BZ := Lib.hid (below_tr B5.out hb B5.out.size)
                  clear hb
                  go_wp2_with fail
                  go_ret
                  exact ⟨rfl, BZ.out⟩
                · go_wp2_with fail
                  refine (dcut_any w.heap.size d g1 g2 _ L _ S5.out.dev).mono ?_
                  rintro e w11 ⟨rfl, h1, h2⟩
                  have hreg : CbB _ r 166 _ := S5.out.reg
                  have hreg1 := hreg.fr h2 (fun e => RNE.out.1 e)
                  have href1 := S5.out.ref.fr h2 (fun y hy => by have := LT5.out; omega)
                  have hfr1 := S5.out.fr.tr2 h2 (fun y hy _ => .inl hy)
                  have hbe1 := Fr.below h2 (fun y hy => by have := LOW.out; omega) S5.out.bel (by have := S5.out.dev.lt; have := S5.out.dev.low; omega)
                  have hf5 := href1.box.free 5
                  have hc5 := href1.box.cell (k := 5) rfl
                  have D7 := Lib.hid h1
                  have E7 := Lib.hid href1
                  have H7 := Lib.hid hreg1
                  have F7 := Lib.hid hfr1
                  have B7 := Lib.hid hbe1
                  have LE7 := Lib.hid S5.out.le
                  clear h1 h2 hreg hreg1 href1 hfr1 hbe1 S5 cx3 cx4
                  go_upto_region 33 with (fail)
                  obtain ⟨w12, hw12⟩ : ∃ w12, w11.setCell ⟨g3, 5, none⟩ (.int .i64 0) = w12 := ⟨_, rfl⟩
                  have ff := fr_cell w11 g3 5 (.int .i64 0)
                  have EE := E7.out.cutz
                  rw [hw12] at ff EE ⊢
                  have g3l : wr.heap.size ≤ g3 := E7.out.low
                  have S6 : Hid (DkB w12 w.heap.size d g1 g2 _ 0 false L ∧ CbB w12 r 166 _ ∧ RdB w12 wr.heap.size g3 v1 v2 b1 b2 0 0 false L ∧ Fr wr w12 (fun k => k = d ∨ k = r ∨ k = g1 ∨ k = g2) ∧ Below w.heap.size w w12) := Lib.hid ⟨D7.out.fr ff (fun y hy => by have := LT5.out; omega), H7.out.fr ff (by have := LT5.out; omega), EE, F7.out.tr2 ff (fun y hy _ => by omega), Fr.below ff (fun y hy => by have := LE7.out; omega) B7.out (by have := D7.out.lt; have := D7.out.low; omega)⟩
                  clear hw12 ff EE D7 E7 H7 F7 B7 hf5 hc5
                  have HD := Lib.hid (dstep_off w.heap.size d g1 g2 _ L w12 S6.out.1)
                  go_wp2_with fail
                  refine HD.out.mono ?_
                  rintro e w13 ⟨rfl, h1, h2⟩
                  have hreg2 := S6.out.2.1.fr h2 (fun e => RNE.out.1 e)
                  have href2 := S6.out.2.2.1.fr h2 (fun y hy => by have := LT5.out; omega)
                  have hfr2 := S6.out.2.2.2.1.tr2 h2 (fun y hy _ => .inl hy)
                  have hbe2 := Fr.below h2 (fun y hy => by have := LOW.out; omega) S6.out.2.2.2.2 (by have := S6.out.1.lt; have := S6.out.1.low; omega)
                  have HE := Lib.hid (rstep_off wr.heap.size g3 v1 v2 b1 b2 0 L w13 href2)
                  have D8 := Lib.hid h1
                  have H8 := Lib.hid hreg2
                  have F8 := Lib.hid hfr2
                  have B8 := Lib.hid hbe2
                  clear h1 h2 hreg2 href2 hfr2 hbe2 HD S6
                  go_wp2_with fail
                  refine HE.out.mono ?_
                  rintro e w14 ⟨rfl, h1, h2⟩
                  have SF : Hid (Stt w.heap.size d g1 g2 r g3 v1 v2 b1 b2 w wr _ (q : Int) 0 0 true L w14) := Lib.hid ⟨D8.out.fr h2 (fun y hy => by have := LT5.out; omega), H8.out.fr h2 (fun e => by have := LT5.out; omega), h1, F8.out.tr2 h2 (fun y hy _ => by have := g3l; omega), Fr.below h2 (fun y hy => by have := LE7.out; omega) B8.out (by have := D8.out.lt; have := D8.out.low; omega), LE7.out⟩
                  clear h1 h2 HE D8 H8 F8 B8
                  have cx3 := (X5.out.fr SF.out.fr NB.out).cell (k := 3) rfl
                  go_wp2_with fail
                  have HG := Lib.hid (T5.out.1.fr G3.out SF.out.fr (fun y hy _ => by have := RL.out; have := RG.out; omega))
                  obtain ⟨rv, rvs, hrk⟩ := T5.out.2
                  have HW := Lib.hid (hrk.fr SF.out.fr GB.out (fun y hy _ => by have := RL.out; have := RG.out; omega))
                  clear hrk
                  have HO := Lib.hid (vopen_all w.heap.size d g1 g2 _ _ L _ true r 200 _ 0 w2.heap.size g m l SF.out.dev SF.out.reg HG.out (by omega))
                  have HP := Lib.hid fun W h1 h2 => ropen_all wr.heap.size g3 v1 v2 b1 b2 0 0 true L W 0 w2.heap.size g2r rv rvs l h1 SF.out.dev.len SF.out.dev.byt LB.out.1 h2 (by have := L60.out; omega) (by omega)
                  have hq5 := fun W => eq_mp (opnA true l 0 L).m (opnA true l 0 L).m W
                  unfold opnV at HO HP
                  rw [mpv_lit] at HO HP
                  simp only [decide_true] at hq5
                  generalize opnA true l 0 L = DD at *
                  obtain ⟨⟨p0, p1, p2, p3, p4, p5, p6⟩, er⟩ := DD
                  simp only at HO HP hq5
                  refine HO.out.mono ?_
                  rintro e wa ⟨rfl, hb⟩
                  have E1 := Lib.hid (SF.out.ref.ab hb)
                  have W1 := Lib.hid (HW.out.ab hb)
                  have BA := Lib.hid (below_tr SF.out.bel hb SF.out.bel.size)
                  have cx3a := Lib.hid (((X5.out.fr SF.out.fr NB.out).ab hb).ab ((Below.refl _ _).alloc (Nat.le_refl _) (.cells (mpv ⟨p0, p1, p2, p3, p4, p5, p6⟩) 63)))
                  clear hb HO HG HW
                  have cx3 := cx3a.out.cell (k := 3) rfl
                  simp only [mpv_lit] at cx3
                  go_wp2_with fail
                  have ha3 : Below wa.heap.size wa (wa.alloc (.cells (mpv ⟨p0, p1, p2, p3, p4, p5, p6⟩) 63)) := (Below.refl _ _).alloc (Nat.le_refl _) _
                  have M3 := MpB.new wa ⟨p0, p1, p2, p3, p4, p5, p6⟩
                  refine (HP.out _ (E1.out.ab ha3) (W1.out.ab ha3)).mono ?_
                  rintro e wb ⟨rfl, hb⟩
                  have M4 := Lib.hid (M3.ab hb)
                  have B4 := Lib.hid (below_tr (below_tr BA.out ha3 BA.out.size) hb (below_tr BA.out ha3 BA.out.size).size)
                  clear hb ha3 M3 E1 W1 BA HP
                  go_upto_region 37 with (fail)
                  have ha4 : Below wb.heap.size wb (wb.alloc (.cells (mpv ⟨p0, p1, p2, p3, p4, p5, p6⟩) 63)) := (Below.refl _ _).alloc (Nat.le_refl _) _
                  have M5 := M4.out.ab ha4
                  have N5 := MpB.new wb ⟨p0, p1, p2, p3, p4, p5, p6⟩
                  obtain ⟨x0, x1, x2, x3, x4, x5, x6⟩ := M5.cells
                  obtain ⟨y0, y1, y2, y3, y4, y5, y6⟩ := N5.cells
                  simp only [mpv_lit] at x0 x1 x2 x3 x4 x5 x6 y0 y1 y2 y3 y4 y5 y6
                  have B5 := Lib.hid (below_tr B4.out ha4 B4.out.size)
                  clear ha4 M5 N5
                  go_wp2_with fail
                  refine (HK.out _).mono ?_
                  rintro e wz ⟨rfl, hb⟩
                  have BZ := Lib.hid (below_tr B5.out hb B5.out.size)
                  clear hb
                  go_wp2_with fail
                  go_ret
                  exact ⟨rfl, BZ.out⟩
              · have hc1 : (0 : Int) < (xc : Int) := by omega
                have hc2 : decide ((0 : Int) < (xc : Int)) = true := by simp; omega
                by_cases hcq : (xc : Int) > (q : Int)
                · have HV := Lib.hid (advance_no d wy r 200 (q : Int) xc S3.out.reg (by omega) hcq)
                  clear hcq
                  have BK := Lib.hid S3.out.bel
                  go_wp2_with fail
                  refine HV.out.mono ?_
                  rintro e w10 ⟨rfl, rfl⟩
                  go_wp2_with fail
                  refine (HK.out _).mono ?_
                  rintro e wz ⟨rfl, hb⟩
                  have BZ := Lib.hid (below_tr BK.out hb BK.out.size)
                  clear hb
                  go_wp2_with fail
                  go_ret
                  exact ⟨rfl, BZ.out⟩
                · have HV := Lib.hid (advance_yes w.heap.size d g1 g2 (q : Int) L wy r 200 (q : Int) xc S3.out.dev (by omega) (by omega) S3.out.reg RNE.out hcq (by omega))
                  go_wp2_with fail
                  refine HV.out.mono ?_
                  rintro e w10 ⟨rfl, h1, h2, h3⟩
                  have S5 : Hid (Stt w.heap.size d g1 g2 r g3 v1 v2 b1 b2 w wr ((q : Int) + 1) (q : Int) xc (-1) false L w10) := Lib.hid
                    ⟨h1, h2, S3.out.ref.fr h3 (fun y hy => by have := LT5.out; omega), S3.out.fr.tr2 h3 (fun y hy _ => by omega), Fr.below h3 (fun y hy => by have := LOW.out; have := RLOW.out; omega) S3.out.bel (by have := S3.out.dev.lt; have := S3.out.dev.low; omega), S3.out.le⟩
                  clear h1 h2 h3 HV S3 cx2 cx3 cx4
                  have cx3 := (X5.out.fr S5.out.fr NB.out).cell (k := 3) rfl
                  have cx4 := (X5.out.fr S5.out.fr NB.out).cell (k := 4) rfl
                  cases xo
                  · go_wp2_with fail
                    have SF := S5
                    clear S5
                    have HG := Lib.hid (T5.out.1.fr G3.out SF.out.fr (fun y hy _ => by have := RL.out; have := RG.out; omega))
                    obtain ⟨rv, rvs, hrk⟩ := T5.out.2
                    have HW := Lib.hid (hrk.fr SF.out.fr GB.out (fun y hy _ => by have := RL.out; have := RG.out; omega))
                    clear hrk
                    have HO := Lib.hid (vopen_all w.heap.size d g1 g2 _ _ L _ false r 200 _ xc w2.heap.size g m l SF.out.dev SF.out.reg HG.out (by omega))
                    have HP := Lib.hid fun W h1 h2 => ropen_all wr.heap.size g3 v1 v2 b1 b2 0 (-1) false L W xc w2.heap.size g2r rv rvs l h1 SF.out.dev.len SF.out.dev.byt LB.out.1 h2 (by have := L60.out; omega) (by omega)
                    have hq5 := fun W => eq_mp (opnA false l xc L).m (opnA false l xc L).m W
                    unfold opnV at HO HP
                    rw [mpv_lit] at HO HP
                    simp only [decide_true] at hq5
                    generalize opnA false l xc L = DD at *
                    obtain ⟨⟨p0, p1, p2, p3, p4, p5, p6⟩, er⟩ := DD
                    simp only at HO HP hq5
                    refine HO.out.mono ?_
                    rintro e wa ⟨rfl, hb⟩
                    have E1 := Lib.hid (SF.out.ref.ab hb)
                    have W1 := Lib.hid (HW.out.ab hb)
                    have BA := Lib.hid (below_tr SF.out.bel hb SF.out.bel.size)
                    have cx3a := Lib.hid (((X5.out.fr SF.out.fr NB.out).ab hb).ab ((Below.refl _ _).alloc (Nat.le_refl _) (.cells (mpv ⟨p0, p1, p2, p3, p4, p5, p6⟩) 63)))
                    clear hb HO HG HW
                    have cx3 := cx3a.out.cell (k := 3) rfl
                    simp only [mpv_lit] at cx3
                    go_wp2_with fail
                    have ha3 : Below wa.heap.size wa (wa.alloc (.cells (mpv ⟨p0, p1, p2, p3, p4, p5, p6⟩) 63)) := (Below.refl _ _).alloc (Nat.le_refl _) _
                    have M3 := MpB.new wa ⟨p0, p1, p2, p3, p4, p5, p6⟩
                    refine (HP.out _ (E1.out.ab ha3) (W1.out.ab ha3)).mono ?_
                    rintro e wb ⟨rfl, hb⟩
                    have M4 := Lib.hid (M3.ab hb)
                    have B4 := Lib.hid (below_tr (below_tr BA.out ha3 BA.out.size) hb (below_tr BA.out ha3 BA.out.size).size)
                    clear hb ha3 M3 E1 W1 BA HP
                    go_upto_region 37 with (fail)
                    have ha4 : Below wb.heap.size wb (wb.alloc (.cells (mpv ⟨p0, p1, p2, p3, p4, p5, p6⟩) 63)) := (Below.refl _ _).alloc (Nat.le_refl _) _
                    have M5 := M4.out.ab ha4
                    have N5 := MpB.new wb ⟨p0, p1, p2, p3, p4, p5, p6⟩
                    obtain ⟨x0, x1, x2, x3, x4, x5, x6⟩ := M5.cells
                    obtain ⟨y0, y1, y2, y3, y4, y5, y6⟩ := N5.cells
                    simp only [mpv_lit] at x0 x1 x2 x3 x4 x5 x6 y0 y1 y2 y3 y4 y5 y6
                    have B5 := Lib.hid (below_tr B4.out ha4 B4.out.size)
                    clear ha4 M5 N5
                    go_wp2_with fail
                    refine (HK.out _).mono ?_
                    rintro e wz ⟨rfl, hb⟩
                    have BZ := Lib.hid (below_tr B5.out hb B5.out.size)
                    clear hb
                    go_wp2_with fail
                    go_ret
                    exact ⟨rfl, BZ.out⟩
                  · go_wp2_with fail
                    refine (dcut_any w.heap.size d g1 g2 _ L _ S5.out.dev).mono ?_
                    rintro e w11 ⟨rfl, h1, h2⟩
                    have hreg : CbB _ r 166 _ := S5.out.reg
                    have hreg1 := hreg.fr h2 (fun e => RNE.out.1 e)
                    have href1 := S5.out.ref.fr h2 (fun y hy => by have := LT5.out; omega)
                    have hfr1 := S5.out.fr.tr2 h2 (fun y hy _ => .inl hy)
                    have hbe1 := Fr.below h2 (fun y hy => by have := LOW.out; omega) S5.out.bel (by have := S5.out.dev.lt; have := S5.out.dev.low; omega)
                    have hf5 := href1.box.free 5
                    have hc5 := href1.box.cell (k := 5) rfl
                    have D7 := Lib.hid h1
                    have E7 := Lib.hid href1
                    have H7 := Lib.hid hreg1
                    have F7 := Lib.hid hfr1
                    have B7 := Lib.hid hbe1
                    have LE7 := Lib.hid S5.out.le
                    clear h1 h2 hreg hreg1 href1 hfr1 hbe1 S5 cx3 cx4
                    go_upto_region 33 with (fail)
                    obtain ⟨w12, hw12⟩ : ∃ w12, w11.setCell ⟨g3, 5, none⟩ (.int .i64 0) = w12 := ⟨_, rfl⟩
                    have ff := fr_cell w11 g3 5 (.int .i64 0)
                    have EE := E7.out.cutz
                    rw [hw12] at ff EE ⊢
                    have g3l : wr.heap.size ≤ g3 := E7.out.low
                    have S6 : Hid (DkB w12 w.heap.size d g1 g2 _ 0 false L ∧ CbB w12 r 166 _ ∧ RdB w12 wr.heap.size g3 v1 v2 b1 b2 0 0 false L ∧ Fr wr w12 (fun k => k = d ∨ k = r ∨ k = g1 ∨ k = g2) ∧ Below w.heap.size w w12) := Lib.hid ⟨D7.out.fr ff (fun y hy => by have := LT5.out; omega), H7.out.fr ff (by have := LT5.out; omega), EE, F7.out.tr2 ff (fun y hy _ => by omega), Fr.below ff (fun y hy => by have := LE7.out; omega) B7.out (by have := D7.out.lt; have := D7.out.low; omega)⟩
                    clear hw12 ff EE D7 E7 H7 F7 B7 hf5 hc5
                    have HD := Lib.hid (dstep_off w.heap.size d g1 g2 _ L w12 S6.out.1)
                    go_wp2_with fail
                    refine HD.out.mono ?_
                    rintro e w13 ⟨rfl, h1, h2⟩
                    have hreg2 := S6.out.2.1.fr h2 (fun e => RNE.out.1 e)
                    have href2 := S6.out.2.2.1.fr h2 (fun y hy => by have := LT5.out; omega)
                    have hfr2 := S6.out.2.2.2.1.tr2 h2 (fun y hy _ => .inl hy)
                    have hbe2 := Fr.below h2 (fun y hy => by have := LOW.out; omega) S6.out.2.2.2.2 (by have := S6.out.1.lt; have := S6.out.1.low; omega)
                    have HE := Lib.hid (rstep_off wr.heap.size g3 v1 v2 b1 b2 0 L w13 href2)
                    have D8 := Lib.hid h1
                    have H8 := Lib.hid hreg2
                    have F8 := Lib.hid hfr2
                    have B8 := Lib.hid hbe2
                    clear h1 h2 hreg2 href2 hfr2 hbe2 HD S6
                    go_wp2_with fail
                    refine HE.out.mono ?_
                    rintro e w14 ⟨rfl, h1, h2⟩
                    have SF : Hid (Stt w.heap.size d g1 g2 r g3 v1 v2 b1 b2 w wr _ (q : Int) xc 0 true L w14) := Lib.hid ⟨D8.out.fr h2 (fun y hy => by have := LT5.out; omega), H8.out.fr h2 (fun e => by have := LT5.out; omega), h1, F8.out.tr2 h2 (fun y hy _ => by have := g3l; omega), Fr.below h2 (fun y hy => by have := LE7.out; omega) B8.out (by have := D8.out.lt; have := D8.out.low; omega), LE7.out⟩
                    clear h1 h2 HE D8 H8 F8 B8
                    have cx3 := (X5.out.fr SF.out.fr NB.out).cell (k := 3) rfl
                    go_wp2_with fail
                    have HG := Lib.hid (T5.out.1.fr G3.out SF.out.fr (fun y hy _ => by have := RL.out; have := RG.out; omega))
                    obtain ⟨rv, rvs, hrk⟩ := T5.out.2
                    have HW := Lib.hid (hrk.fr SF.out.fr GB.out (fun y hy _ => by have := RL.out; have := RG.out; omega))
                    clear hrk
                    have HO := Lib.hid (vopen_all w.heap.size d g1 g2 _ _ L _ true r 200 _ xc w2.heap.size g m l SF.out.dev SF.out.reg HG.out (by omega))
                    have HP := Lib.hid fun W h1 h2 => ropen_all wr.heap.size g3 v1 v2 b1 b2 0 0 true L W xc w2.heap.size g2r rv rvs l h1 SF.out.dev.len SF.out.dev.byt LB.out.1 h2 (by have := L60.out; omega) (by omega)
                    have hq5 := fun W => eq_mp (opnA true l xc L).m (opnA true l xc L).m W
                    unfold opnV at HO HP
                    rw [mpv_lit] at HO HP
                    simp only [decide_true] at hq5
                    generalize opnA true l xc L = DD at *
                    obtain ⟨⟨p0, p1, p2, p3, p4, p5, p6⟩, er⟩ := DD
                    simp only at HO HP hq5
                    refine HO.out.mono ?_
                    rintro e wa ⟨rfl, hb⟩
                    have E1 := Lib.hid (SF.out.ref.ab hb)
                    have W1 := Lib.hid (HW.out.ab hb)
                    have BA := Lib.hid (below_tr SF.out.bel hb SF.out.bel.size)
                    have cx3a := Lib.hid (((X5.out.fr SF.out.fr NB.out).ab hb).ab ((Below.refl _ _).alloc (Nat.le_refl _) (.cells (mpv ⟨p0, p1, p2, p3, p4, p5, p6⟩) 63)))
                    clear hb HO HG HW
                    have cx3 := cx3a.out.cell (k := 3) rfl
                    simp only [mpv_lit] at cx3
                    go_wp2_with fail
                    have ha3 : Below wa.heap.size wa (wa.alloc (.cells (mpv ⟨p0, p1, p2, p3, p4, p5, p6⟩) 63)) := (Below.refl _ _).alloc (Nat.le_refl _) _
                    have M3 := MpB.new wa ⟨p0, p1, p2, p3, p4, p5, p6⟩
                    refine (HP.out _ (E1.out.ab ha3) (W1.out.ab ha3)).mono ?_
                    rintro e wb ⟨rfl, hb⟩
                    have M4 := Lib.hid (M3.ab hb)
                    have B4 := Lib.hid (below_tr (below_tr BA.out ha3 BA.out.size) hb (below_tr BA.out ha3 BA.out.size).size)
                    clear hb ha3 M3 E1 W1 BA HP
                    go_upto_region 37 with (fail)
                    have ha4 : Below wb.heap.size wb (wb.alloc (.cells (mpv ⟨p0, p1, p2, p3, p4, p5, p6⟩) 63)) := (Below.refl _ _).alloc (Nat.le_refl _) _
                    have M5 := M4.out.ab ha4
                    have N5 := MpB.new wb ⟨p0, p1, p2, p3, p4, p5, p6⟩
                    obtain ⟨x0, x1, x2, x3, x4, x5, x6⟩ := M5.cells
                    obtain ⟨y0, y1, y2, y3, y4, y5, y6⟩ := N5.cells
                    simp only [mpv_lit] at x0 x1 x2 x3 x4 x5 x6 y0 y1 y2 y3 y4 y5 y6
                    have B5 := Lib.hid (below_tr B4.out ha4 B4.out.size)
                    clear ha4 M5 N5
                    go_wp2_with fail
                    refine (HK.out _).mono ?_
                    rintro e wz ⟨rfl, hb⟩
                    have BZ := Lib.hid (below_tr B5.out hb B5.out.size)
                    clear hb
                    go_wp2_with fail
                    go_ret
                    exact ⟨rfl, BZ.out⟩
set_option maxRecDepth 100000 in
theorem ropens_walk (u : Value) (v : Value) (w : World) (hk0 : ∃ base, Value.okWide Tryz.prog w .any base 26 u) {H : Type} {enc : TypeId × Value → H} {d0 : DataW H} {p0 : List MemPlace} (hd0 : DataW.Trod enc Tryz.prog w 0 (fun _ => true) true 26 u d0 p0) (hp0 : ∀ x ∈ p0, x.block < w.heap.size)
    (hk : ∃ base, Value.okWide Tryz.prog w .any base 27 v) {d : DataW H} {p : List MemPlace} (hd : DataW.Trod enc Tryz.prog w 0 (fun _ => true) true 27 v d p) (hp : ∀ x ∈ p, x.block < w.heap.size) :
    Calls Tryz.prog 3 #[u, v] w fun e w' => e = .returned (.bool true) ∧ Below w.heap.size w w' := by
  obtain ⟨base, hk⟩ := hk
  obtain ⟨base0, hk0⟩ := hk0
  obtain ⟨x, rfl, i0, i1, _, hc⟩ := open_dev hk0 hd0 hp0
  obtain ⟨A, n, c, ks, rfl, hks⟩ := open_keys hk hd hp
  exact ropens_any x.a0 x.n0 x.c0 x.s0 x.a1 x.n1 x.c1 x.s1 x.r x.c x.off A n c ks w hks i0 i1 hc
end Go.Proofs.YtakgebbeknfplaaGreat
