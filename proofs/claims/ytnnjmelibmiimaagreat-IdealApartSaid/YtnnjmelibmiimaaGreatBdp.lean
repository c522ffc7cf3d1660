/-
  IDEAL: usage, give, revoke: the walks.
-/
import Derived.Test.YtnnjmelibmiimaaGreatBdo
namespace Go.Proofs.YtnnjmelibmiimaaGreat
open Go.RowKit
set_option linter.unusedVariables false
set_option linter.unusedSimpArgs false

def cntA (z : Int) : AnsP := ⟨0, 0, 0, [], [], z, []⟩
def setA (t : TnP) (A : HL) : TnP := ⟨t.n, t.sec, t.q, t.now, A, t.sn, t.tu⟩
theorem setA_ok {t : TnP} (A : HL) (h : TnOk t) : TnOk (setA t A) := ⟨h.n1, h.n32, h.sec, h.q1, h.q2⟩
/-- what a call on the caps hands back, as a slot holds it -/
def CapVR (c : Nat) (mo : Option Nat) (w0 : World) (u : Value) (A' : HL) (v : Value) (W : World) : Prop := CapR 0 c mo w0 u A' (.returned v) W
theorem CapVR.mono (c : Nat) (mo : Option Nat) (w0 : World) (u : Value) (A' : HL) : Mono (CapVR c mo w0 u A') := fun v W W' ⟨h1, mo', h2, h3, h4⟩ hb => ⟨h1, mo', h2.ab hb, h3.trW (Fr.of hb _), h4⟩
theorem CapR.from {c : Nat} {mo : Option Nat} {w0 W W' : World} {u : Value} {A' : HL} {e : Ending} (h : CapR 0 c mo W u A' e W') (hb : Below w0.heap.size w0 W) : ∃ v, e = .returned v ∧ CapVR c mo w0 u A' v W' ∧ Fr W W' (capF c mo) := by
  obtain ⟨h1, mo', h2, h3, h4⟩ := h
  refine ⟨u, h1, ⟨rfl, mo', h2, (Fr.of hb _).trW h3, ?_⟩, h3⟩
  rcases h4 with h4 | ⟨m, h4, h5⟩
  · exact .inl h4
  · exact .inr ⟨m, h4, Nat.le_trans hb.size h5⟩
theorem sumS_bd (zs : List Int) (h : ∀ z ∈ zs, 0 ≤ z ∧ z ≤ 1100000) : 0 ≤ sumS zs ∧ sumS zs ≤ 1100001 * (zs.length : Int) := by
  induction zs with
  | nil => simp [sumS]
  | cons z r ih =>
    have h1 := ih fun y hy => h y (List.mem_cons_of_mem _ hy)
    have h2 := h z (List.mem_cons_self ..)
    have h3 : sumS (z :: r) = z + 1 + sumS r := by simp [sumS]
    rw [h3, List.length_cons]
    omega
theorem liveC_bd {t : TnP} (hl : ∀ p ∈ t.sn, p.1.length ≤ 100000) : ∀ z ∈ liveC t.sn, 0 ≤ z ∧ z ≤ 1100000 := fun z hz => by
  unfold liveC at hz
  obtain ⟨p, hp, rfl⟩ := List.mem_map.1 hz
  have h1 := chg_bd p.1
  have h2 := hl p (List.mem_filter.1 hp).1
  omega

section
variable {w : World} {O : Tg} {s blocks m : Nat} {T : List TnP} {bs : List (Nat × TnP)} {c : CallP}
set_option maxRecDepth 100000 in
set_option maxHeartbeats 1000000 in
theorem id_usage_any (x : Nat × TnP) (h : IdM w O s blocks T m bs) (hc : c.Ok) (hf : fnd bs (c.hd / 4294967296) = some x) (hk : checkH x.2.A (c.hd % 4294967296) 1 = 0) (hlm : LimT x.2) :
    Calls Tryz.prog 54 #[.pointer (some ⟨s, 0, none⟩), .agg c.cs] w (DoR s blocks w O (cntA (chg x.2.now + sumS (liveC x.2.sn))) T) := by
  obtain ⟨cb, mo, sm, nb, es, ht⟩ := h.all x (fnd_mem hf).1
  have ha : Below w.heap.size w ((w.alloc (.cells #[.int .i64 c.kind, .int .u32 (c.ten : Int), .slice c.sec.A c.sec.n c.sec.c, .int .i64 c.quota, .int .i64 c.n, .int .u64 (c.hd : Int), .int .u64 (c.oth : Int), .int .u64 (c.sn : Int), .int .u8 (c.rt : Int), .slice c.oA c.oN c.oC, .slice c.key.A c.key.n c.key.c, .slice c.frm.A c.frm.n c.frm.c, .slice c.upto.A c.upto.n c.upto.c, .bool c.back] 36)).alloc (.cells #[.int .i64 0, .int .u64 0, .int .u64 0, .slice none 0 0, .slice none 0 0, .int .i64 0, .slice none 0 0] 40)) := ((Below.refl _ _).alloc (Nat.le_refl _) _).alloc (by simp) _
  have hcb : CbB ((w.alloc (.cells #[.int .i64 c.kind, .int .u32 (c.ten : Int), .slice c.sec.A c.sec.n c.sec.c, .int .i64 c.quota, .int .i64 c.n, .int .u64 (c.hd : Int), .int .u64 (c.oth : Int), .int .u64 (c.sn : Int), .int .u8 (c.rt : Int), .slice c.oA c.oN c.oC, .slice c.key.A c.key.n c.key.c, .slice c.frm.A c.frm.n c.frm.c, .slice c.upto.A c.upto.n c.upto.c, .bool c.back] 36)).alloc (.cells #[.int .i64 0, .int .u64 0, .int .u64 0, .slice none 0 0, .slice none 0 0, .int .i64 0, .slice none 0 0] 40)) w.heap.size 36 c.cs := (CbB.new w _ _).ab ((Below.refl _ _).alloc (Nat.le_refl _) _)
  have hqb : CbB ((w.alloc (.cells #[.int .i64 c.kind, .int .u32 (c.ten : Int), .slice c.sec.A c.sec.n c.sec.c, .int .i64 c.quota, .int .i64 c.n, .int .u64 (c.hd : Int), .int .u64 (c.oth : Int), .int .u64 (c.sn : Int), .int .u8 (c.rt : Int), .slice c.oA c.oN c.oC, .slice c.key.A c.key.n c.key.c, .slice c.frm.A c.frm.n c.frm.c, .slice c.upto.A c.upto.n c.upto.c, .bool c.back] 36)).alloc (.cells #[.int .i64 0, .int .u64 0, .int .u64 0, .slice none 0 0, .slice none 0 0, .int .i64 0, .slice none 0 0] 40)) (w.heap.size + 1) 40 (ansE 0) := CbB.newI (by simp)
  unfold CallP.cs at hcb ⊢
  go_enter Tryz.func54, Tryz.ntmps54
  go_upto_region 1 with (fail)
  obtain ⟨w0, hw0⟩ : ∃ w0, ((w.alloc (.cells #[.int .i64 c.kind, .int .u32 (c.ten : Int), .slice c.sec.A c.sec.n c.sec.c, .int .i64 c.quota, .int .i64 c.n, .int .u64 (c.hd : Int), .int .u64 (c.oth : Int), .int .u64 (c.sn : Int), .int .u8 (c.rt : Int), .slice c.oA c.oN c.oC, .slice c.key.A c.key.n c.key.c, .slice c.frm.A c.frm.n c.frm.c, .slice c.upto.A c.upto.n c.upto.c, .bool c.back] 36)).alloc (.cells #[.int .i64 0, .int .u64 0, .int .u64 0, .slice none 0 0, .slice none 0 0, .int .i64 0, .slice none 0 0] 40)) = w0 := ⟨_, rfl⟩
  rw [hw0] at ha hcb hqb ⊢
  clear hw0
  have c0 := (hcb).cell (k := 0) rfl
  have c1 := (hcb).cell (k := 1) rfl
  have c2 := (hcb).cell (k := 2) rfl
  have c3 := (hcb).cell (k := 3) rfl
  have c4 := (hcb).cell (k := 4) rfl
  have c5 := (hcb).cell (k := 5) rfl
  have c6 := (hcb).cell (k := 6) rfl
  have c7 := (hcb).cell (k := 7) rfl
  have c8 := (hcb).cell (k := 8) rfl
  have c9 := (hcb).cell (k := 9) rfl
  have c10 := (hcb).cell (k := 10) rfl
  have c11 := (hcb).cell (k := 11) rfl
  have c12 := (hcb).cell (k := 12) rfl
  have c13 := (hcb).cell (k := 13) rfl
  have HA := Lib.hid ha
  have HQ := Lib.hid hqb
  have HB := Lib.hid hcb
  have M0 := h.stp (Stp.cut ha (fun _ => False)) fun _ h => h
  have HM := Lib.hid M0
  have T0 := ht.stp (Stp.cut ha (fun _ => False)) fun h => h
  have HT := Lib.hid T0
  have HTW := Lib.hid ht
  have HH := Lib.hid (holder_some 1 x cb mo sm nb es M0 hc hf T0)
  rw [hk] at HH
  have CO := Lib.hid hc
  have HFN := Lib.hid hf
  have HMW := Lib.hid h
  have HOKT := Lib.hid (h.ok x (fnd_mem hf).1)
  have HLM := Lib.hid hlm
  clear h ha hqb hcb hf hc M0 T0 ht hk hlm
  go_wp2_with fail
  refine HH.out.mono ?_
  rintro e w9 ⟨rfl, hb9⟩
  have B9 := Lib.hid hb9
  clear hb9 HH
  have T9 := HT.out.stp (Stp.of (O' := cutTg O w.heap.size) B9.out (fun _ => False) fun _ _ => rfl) fun h => h
  have d2 := T9.box.cell (k := 2) rfl
  have HC := Lib.hid (charge_any nb x.2.now w9 (cutTg O w.heap.size) T9.now (by have := HLM.out.1; omega))
  clear T9
  go_wp2_with fail
  refine HC.out.mono ?_
  rintro e w8 ⟨rfl, hb8⟩
  have B8 := Lib.hid (below_tr B9.out hb8 B9.out.size)
  clear hb8 HC d2
  have HS := Lib.hid (snapped_any (HT.out.stp (Stp.of (O' := cutTg O w.heap.size) B8.out (fun _ => False) fun _ _ => rfl) fun h => h) HLM.out.2.1 HLM.out.2.2)
  go_wp2_with fail
  refine HS.out.mono ?_
  rintro e w7 ⟨v, zs, rfl, hv, hp, hb7⟩
  obtain ⟨zA, zc, hzv⟩ := row_shape hv
  subst hzv
  have B7 := Lib.hid (below_tr B8.out hb7 B8.out.size)
  have LC := Lib.hid (liveC_bd HLM.out.2.1)
  have LL : Hid (zs.length ≤ 100000) := Lib.hid (by rw [hp.length_eq]; exact Nat.le_trans (liveC_len _) HLM.out.2.2)
  have ZB : Hid (∀ z ∈ zs, 0 ≤ z ∧ z ≤ 1100000) := Lib.hid fun z hz => LC.out z (hp.mem_iff.1 hz)
  have ZR : Hid (IsRow .i64 w7 zA zs.length zc zs) := Lib.hid (isRow_own hv fun z hz => liveC_wf HLM.out.2.1 z (hp.mem_iff.1 hz))
  have SP : Hid (sumS zs = sumS (liveC x.2.sn)) := Lib.hid (sumS_perm hp)
  have CB : Hid (0 ≤ chg x.2.now ∧ chg x.2.now ≤ 1100000) := Lib.hid (by have := chg_bd x.2.now; have := HLM.out.1; omega)
  obtain ⟨zn, hzn⟩ : ∃ n, zs.length = n := ⟨_, rfl⟩
  obtain ⟨ch, hch⟩ : ∃ n, chg x.2.now = n := ⟨_, rfl⟩
  have ZN := Lib.hid hzn
  have CH := Lib.hid hch
  rw [hzn] at LL ZR ⊢
  rw [hch] at CB ⊢
  have zn0 : (zn : Int) ≤ 100000 := by have := LL.out; omega
  clear hv hp hb7 HS hzn hch
  go_wp2_with fail
  go_loopw [8, 30] (fun z8 z30 wr => ∃ k : Nat, k ≤ zn ∧ z30 = .int .i64 (k : Int) ∧ z8 = .int .i64 (ch + sumS (zs.take k)) ∧ w7 = wr) (fun _ z _ => zn - (intOf z).toNat)
  case atStart => exact ⟨0, by simp [sumS]⟩
  case round =>
    obtain ⟨k, hk, rfl, rfl, rfl⟩ := hrel
    have SK := sumS_bd (zs.take k) fun z hz => ZB.out z (List.mem_of_mem_take hz)
    have SKH := Lib.hid SK
    have ZTL : Hid ((zs.take k).length ≤ 100000) := Lib.hid (by rw [List.length_take]; have := LL.out; have := ZN.out; omega)
    by_cases hlt : k < zn
    · have hkz : k < zs.length := by rw [ZN.out]; exact hlt
      obtain ⟨A0, hA0, -, hce⟩ := ZR.out.at (by omega)
      have hck := hce k hlt
      have e0 : zs.getD k 0 = zs[k]?.getD 0 := by simp [List.getD]
      have hst := sumS_take_succ zs k hkz
      rw [e0] at hck
      rw [hA0] at *
      have ZM : Hid (0 ≤ zs[k]?.getD 0 ∧ zs[k]?.getD 0 ≤ 1100000) := Lib.hid (by rw [List.getElem?_eq_getElem hkz]; exact ZB.out _ (List.getElem_mem hkz))
      obtain ⟨z, hz⟩ : ∃ z, zs[k]?.getD 0 = z := ⟨_, rfl⟩
      rw [hz] at hck hst ZM
      obtain ⟨sk, hsk⟩ : ∃ z, sumS (zs.take k) = z := ⟨_, rfl⟩
      rw [hsk] at hst SKH ⊢
      have ST := Lib.hid hst
      have KL := Lib.hid hlt
      have hlti : (k : Int) < (zn : Int) := by omega
      have hk0 : (0 : Int) ≤ (k : Int) := by omega
      have hw1 : IntKind.i64.wrap (z + 1) = z + 1 := by rw [IntKind.wrap_i64]; have := ZM.out; omega
      have hw2 : IntKind.i64.wrap (ch + sk + (z + 1)) = ch + sk + (z + 1) := by rw [IntKind.wrap_i64]; have := ZM.out; have := SKH.out; have := CB.out; have := ZTL.out; omega
      clear hk hlt hkz hA0 hce e0 hst hz hsk SK
      go_wp2_with fail
      go_roundw
      case rel => exact ⟨k + 1, KL.out, by go_num, by rw [ST.out]; congr 1; omega, by first | rfl | trivial⟩
      case measure => simp [intOf]; have := KL.out; omega
    · obtain rfl : k = zn := by omega
      have e1 : zs.take k = zs := List.take_of_length_le (by rw [ZN.out]; exact Nat.le_refl _)
      have PV : Hid (chg x.2.now + sumS (liveC x.2.sn) = ch + sumS (zs.take k)) := Lib.hid (by rw [e1, SP.out, CH.out])
      obtain ⟨sv, hsv⟩ : ∃ z, ch + sumS (zs.take k) = z := ⟨_, rfl⟩
      rw [hsv] at PV ⊢
      have Q1 := Lib.hid (HQ.out.ab B7.out)
      have M1 := Lib.hid (HM.out.stp (Stp.of B7.out (fun _ => False) fun _ _ => rfl) fun _ h => h)
      have S1 : Hid (Stp (fun τ => τ.1 = s) w O w7 (cutTg O w.heap.size)) := Lib.hid ((Stp.cut HA.out _).ab B7.out)
      clear hk hlt e1 hsv SK
      go_wp2_with (first
        | (with_reducible refine wpList_storeC (o := ⟨none, .store _ (.tmp 4) (.tmp 40), _, _, _, _⟩) ?_ 40 (.tmp 4) (.tmp 40) ?_ (w.heap.size + 1) ?_ (#[.int .i64 0, .int .u64 0, .int .u64 0, .slice none 0 0, .slice none 0 0, .int .i64 sv, .slice none 0 0]) ?_ (cs := ansE 0) (t := 40) Q1.out (szAn7 _ _ _ _ _ _ _) ?_ (by simp [Value.oneCell']) ?_
           · rfl
           · rfl
           · rfl
           · rfl
           · rfl
           intro wz hwz
           have QZ : Hid (CbB wz (w.heap.size + 1) 40 (#[.int .i64 0, .int .u64 0, .int .u64 0, .slice none 0 0, .slice none 0 0, .int .i64 sv, .slice none 0 0])) := Lib.hid (by rw [hwz]; exact CbB.row Q1.out _)
           have FZ : Hid (Fr w7 wz (fun k => k = (w.heap.size + 1))) := Lib.hid (by rw [hwz]; exact fr_rowX _ _ _)
           clear hwz))
      refine bodyPost_ret (ans_results Tryz.results54 _ _ (w.heap.size + 1) (#[.int .i64 0, .int .u64 0, .int .u64 0, .slice none 0 0, .slice none 0 0, .int .i64 sv, .slice none 0 0]) rfl QZ.out rfl) rfl ?_
      rw [PV.out]
      exact DoR.flat 0 0 0 sv ⟨m, _, M1.out.stp (Stp.box FZ.out (cutTg_at (Nat.le_succ _))) fun i e => by have := M1.out.pos; injection e with e; omega⟩ (S1.out.fresh FZ.out (Nat.le_succ _))
set_option maxRecDepth 100000 in
set_option maxHeartbeats 1000000 in
theorem id_give_yes (x : Nat × TnP) (h : IdM w O s blocks T m bs) (hc : c.Ok) (hf : fnd bs (c.hd / 4294967296) = some x) (hk : checkH x.2.A (c.hd % 4294967296) 0 = 0) (q hh : Nat) (hqe : c.hd / 4294967296 = q) (hhe : c.hd % 4294967296 = hh) (hal : x.2.A.length < 1000000) (g : Nat) (he : (giveH x.2.A hh c.rt).1 = (g, 0)) (hg : g < 4294967296) :
    Calls Tryz.prog 47 #[.pointer (some ⟨s, 0, none⟩), .agg c.cs] w (DoR s blocks w O (hdA (q * 4294967296 + g)) (updT q (setA x.2 (giveH x.2.A hh c.rt).2) T)) := by
  obtain ⟨cb, mo, sm, nb, es, ht⟩ := h.all x (fnd_mem hf).1
  have ha : Below w.heap.size w ((w.alloc (.cells #[.int .i64 c.kind, .int .u32 (c.ten : Int), .slice c.sec.A c.sec.n c.sec.c, .int .i64 c.quota, .int .i64 c.n, .int .u64 (c.hd : Int), .int .u64 (c.oth : Int), .int .u64 (c.sn : Int), .int .u8 (c.rt : Int), .slice c.oA c.oN c.oC, .slice c.key.A c.key.n c.key.c, .slice c.frm.A c.frm.n c.frm.c, .slice c.upto.A c.upto.n c.upto.c, .bool c.back] 36)).alloc (.cells #[.int .i64 0, .int .u64 0, .int .u64 0, .slice none 0 0, .slice none 0 0, .int .i64 0, .slice none 0 0] 40)) := ((Below.refl _ _).alloc (Nat.le_refl _) _).alloc (by simp) _
  have hcb : CbB ((w.alloc (.cells #[.int .i64 c.kind, .int .u32 (c.ten : Int), .slice c.sec.A c.sec.n c.sec.c, .int .i64 c.quota, .int .i64 c.n, .int .u64 (c.hd : Int), .int .u64 (c.oth : Int), .int .u64 (c.sn : Int), .int .u8 (c.rt : Int), .slice c.oA c.oN c.oC, .slice c.key.A c.key.n c.key.c, .slice c.frm.A c.frm.n c.frm.c, .slice c.upto.A c.upto.n c.upto.c, .bool c.back] 36)).alloc (.cells #[.int .i64 0, .int .u64 0, .int .u64 0, .slice none 0 0, .slice none 0 0, .int .i64 0, .slice none 0 0] 40)) w.heap.size 36 c.cs := (CbB.new w _ _).ab ((Below.refl _ _).alloc (Nat.le_refl _) _)
  have hqb : CbB ((w.alloc (.cells #[.int .i64 c.kind, .int .u32 (c.ten : Int), .slice c.sec.A c.sec.n c.sec.c, .int .i64 c.quota, .int .i64 c.n, .int .u64 (c.hd : Int), .int .u64 (c.oth : Int), .int .u64 (c.sn : Int), .int .u8 (c.rt : Int), .slice c.oA c.oN c.oC, .slice c.key.A c.key.n c.key.c, .slice c.frm.A c.frm.n c.frm.c, .slice c.upto.A c.upto.n c.upto.c, .bool c.back] 36)).alloc (.cells #[.int .i64 0, .int .u64 0, .int .u64 0, .slice none 0 0, .slice none 0 0, .int .i64 0, .slice none 0 0] 40)) (w.heap.size + 1) 40 (ansE 0) := CbB.newI (by simp)
  unfold CallP.cs at hcb ⊢
  go_enter Tryz.func47, Tryz.ntmps47
  go_upto_region 1 with (fail)
  obtain ⟨w0, hw0⟩ : ∃ w0, ((w.alloc (.cells #[.int .i64 c.kind, .int .u32 (c.ten : Int), .slice c.sec.A c.sec.n c.sec.c, .int .i64 c.quota, .int .i64 c.n, .int .u64 (c.hd : Int), .int .u64 (c.oth : Int), .int .u64 (c.sn : Int), .int .u8 (c.rt : Int), .slice c.oA c.oN c.oC, .slice c.key.A c.key.n c.key.c, .slice c.frm.A c.frm.n c.frm.c, .slice c.upto.A c.upto.n c.upto.c, .bool c.back] 36)).alloc (.cells #[.int .i64 0, .int .u64 0, .int .u64 0, .slice none 0 0, .slice none 0 0, .int .i64 0, .slice none 0 0] 40)) = w0 := ⟨_, rfl⟩
  rw [hw0] at ha hcb hqb ⊢
  clear hw0
  have c0 := (hcb).cell (k := 0) rfl
  have c1 := (hcb).cell (k := 1) rfl
  have c2 := (hcb).cell (k := 2) rfl
  have c3 := (hcb).cell (k := 3) rfl
  have c4 := (hcb).cell (k := 4) rfl
  have c5 := (hcb).cell (k := 5) rfl
  have c6 := (hcb).cell (k := 6) rfl
  have c7 := (hcb).cell (k := 7) rfl
  have c8 := (hcb).cell (k := 8) rfl
  have c9 := (hcb).cell (k := 9) rfl
  have c10 := (hcb).cell (k := 10) rfl
  have c11 := (hcb).cell (k := 11) rfl
  have c12 := (hcb).cell (k := 12) rfl
  have c13 := (hcb).cell (k := 13) rfl
  have HA := Lib.hid ha
  have HQ := Lib.hid hqb
  have HB := Lib.hid hcb
  have M0 := h.stp (Stp.cut ha (fun _ => False)) fun _ h => h
  have HM := Lib.hid M0
  have T0 := ht.stp (Stp.cut ha (fun _ => False)) fun h => h
  have HT := Lib.hid T0
  have HTW := Lib.hid ht
  have HH := Lib.hid (holder_some 0 x cb mo sm nb es M0 hc hf T0)
  rw [hk] at HH
  have CO := Lib.hid hc
  have HFN := Lib.hid hf
  have HMW := Lib.hid h
  have HOKT := Lib.hid (h.ok x (fnd_mem hf).1)
  have HQE := Lib.hid hqe
  rw [hhe] at HH
  have HAL := Lib.hid hal
  have hdv : (c.hd : Int) / 4294967296 = (q : Int) := by omega
  have hd0 : (0 : Int) ≤ (q : Int) := by omega
  have hd1 : (q : Int) < 4294967296 := by have := hc.hd; omega
  have QL : Hid (q < 4294967296) := Lib.hid (by have := hc.hd; omega)
  have HHO : Hid (u64Ok hh) := Lib.hid (by unfold u64Ok; omega)
  have HE := Lib.hid he
  have HG := Lib.hid hg
  clear h ha hqb hcb hf hc M0 T0 ht hk hqe hhe hal he hg
  go_wp2_with fail
  refine HH.out.mono ?_
  rintro e w9 ⟨rfl, hb9⟩
  have B9 := Lib.hid hb9
  clear hb9 HH
  go_upto_region 4 with (fail)
  have T9 := Lib.hid (HT.out.stp (Stp.of (O' := cutTg O w.heap.size) B9.out (fun _ => False) fun _ _ => rfl) fun h => h)
  have X9 := Lib.hid (HB.out.ab B9.out)
  rw [HQE.out] at HFN
  have NB1 : Hid (¬ capF cb mo x.1) := Lib.hid fun e => by
    obtain ⟨a1, a2, _⟩ := T9.out.apart
    rcases e with e | e
    · exact a1 e
    · exact (a2 _ e).1 rfl
  have NB2 : Hid (¬ capF cb mo w.heap.size) := Lib.hid fun e => by
    rcases e with e | e
    · obtain ⟨l, h4, _⟩ := T9.out.caps.st
      have h5 := X9.out
      rw [e] at h5
      exact absurd rfl (cb_neX h5 h4.box (by decide))
    · obtain ⟨l, h4, _⟩ := T9.out.caps.st
      obtain ⟨es', cl, h6, _⟩ := (h4.map _ e).2
      have h5 := X9.out
      unfold CbB at h5
      rw [h6] at h5
      cases h5
  refine wp_wideW 7 (capF cb mo) [⟨21, IsR (.pointer (some ⟨x.1, 0, none⟩)), [], false⟩, ⟨22, IsR (.pointer (some ⟨x.1, 0, none⟩)), [0], false⟩, ⟨23, IsR (.pointer (some ⟨x.1, 3, none⟩)), [1], false⟩, ⟨24, IsR (.pointer (some ⟨cb, 0, none⟩)), [2], false⟩, ⟨25, IsR (.int .u64 (hh : Int)), [], false⟩, ⟨26, IsR (.pointer (some ⟨w.heap.size, 8, none⟩)), [], false⟩, ⟨27, IsR (.int .u8 (c.rt : Int)), [5], false⟩, ⟨28, CapVR cb mo w9 (.tuple #[.int .u64 (g : Int), .int .i64 0]) (giveH x.2.A hh c.rt).2, [3, 4, 6], false⟩, ⟨20, IsR (.tuple #[.int .u64 (g : Int), .int .i64 0]), [7], false⟩, ⟨29, IsR (.int .u64 (g : Int)), [8], false⟩, ⟨30, IsR (.int .i64 0), [8], false⟩, ⟨8, IsR (.int .u64 (g : Int)), [9], false⟩] (by kernel_rfl) (by kernel_rfl) rfl rfl rfl ⟨?_, ?_, ?_, ?_, ?_, ?_, ?_, ?_, ?_, ?_, ?_, ?_, trivial⟩ ?_
  · refine ⟨rfl, IsR.mono _, .inr fun _ _ _ h _ => h, fun a W hA hb hd => ⟨fun _ => takes_plain rfl (yields_value _ ?_ rfl), fun e => absurd e (by decide)⟩⟩
    have h5 : a.tmps[5]?.getD undef = .pointer (some ⟨x.1, 0, none⟩) := (eval_get a 5).trans ((hA.eval (by simp)).trans rfl)
    go_simp
  · refine ⟨rfl, IsR.mono _, .inr fun _ _ _ h _ => h, fun a W hA hb hd => ⟨fun _ => takes_plain rfl (yields_value _ ?_ rfl), fun e => absurd e (by decide)⟩⟩
    have h21 : a.tmps[21]?.getD undef = .pointer (some ⟨x.1, 0, none⟩) := (eval_get a 21).trans (hd 0 (by simp) _ rfl)
    go_simp
  · refine ⟨rfl, IsR.mono _, .inr fun _ _ _ h _ => h, fun a W hA hb hd => ⟨fun _ => takes_plain rfl (yields_value _ ?_ rfl), fun e => absurd e (by decide)⟩⟩
    have h22 : a.tmps[22]?.getD undef = .pointer (some ⟨x.1, 0, none⟩) := (eval_get a 22).trans (hd 1 (by simp) _ rfl)
    go_simp
  · refine ⟨rfl, IsR.mono _, .inr fun _ _ _ h _ => h, fun a W hA hb hd => ⟨fun _ => takes_plain rfl (yields_value _ ?_ rfl), fun e => absurd e (by decide)⟩⟩
    have h23 : a.tmps[23]?.getD undef = .pointer (some ⟨x.1, 3, none⟩) := (eval_get a 23).trans (hd 2 (by simp) _ rfl)
    have hc : W.cell? (⟨x.1, 3, none⟩) = some (.pointer (some ⟨cb, 0, none⟩)) := (T9.out.box.fr hb NB1.out).cell (k := 3) rfl
    go_simp
  · refine ⟨rfl, IsR.mono _, .inr fun _ _ _ h _ => h, fun a W hA hb hd => ⟨fun _ => takes_plain rfl (yields_value _ ?_ rfl), fun e => absurd e (by decide)⟩⟩
    have h6 : a.tmps[6]?.getD undef = .int .u64 (hh : Int) := (eval_get a 6).trans ((hA.eval (by simp)).trans rfl)
    go_simp
  · refine ⟨rfl, IsR.mono _, .inr fun _ _ _ h _ => h, fun a W hA hb hd => ⟨fun _ => takes_plain rfl (yields_value _ ?_ rfl), fun e => absurd e (by decide)⟩⟩
    have h3 : a.tmps[3]?.getD undef = .pointer (some ⟨w.heap.size, 0, none⟩) := (eval_get a 3).trans ((hA.eval (by simp)).trans rfl)
    go_simp
  · refine ⟨rfl, IsR.mono _, .inr fun _ _ _ h _ => h, fun a W hA hb hd => ⟨fun _ => takes_plain rfl (yields_value _ ?_ rfl), fun e => absurd e (by decide)⟩⟩
    have h26 : a.tmps[26]?.getD undef = .pointer (some ⟨w.heap.size, 8, none⟩) := (eval_get a 26).trans (hd 5 (by simp) _ rfl)
    have hc : W.cell? (⟨w.heap.size, 8, none⟩) = some (.int .u8 (c.rt : Int)) := (X9.out.fr hb NB2.out).cell (k := 8) rfl
    go_simp
  · refine ⟨rfl, CapVR.mono _ _ _ _ _, .inl rfl, fun a W hA hb hd => ⟨fun e => absurd rfl e, fun _ hw => ?_⟩⟩
    have h24 : a.tmps[24]?.getD undef = .pointer (some ⟨cb, 0, none⟩) := (eval_get a 24).trans (hd 3 (by simp) _ rfl)
    have h25 : a.tmps[25]?.getD undef = .int .u64 (hh : Int) := (eval_get a 25).trans (hd 4 (by simp) _ rfl)
    have h27 : a.tmps[27]?.getD undef = .int .u8 (c.rt : Int) := (eval_get a 27).trans (hd 6 (by simp) _ rfl)
    have tw := T9.out.stp (Stp.of (O' := cutTg O w.heap.size) hw (fun _ => False) fun _ _ => rfl) fun h => h
    have hc := giveA_any hh c.rt tw.caps HHO.out HAL.out
    rw [HE.out] at hc
    refine .inl ⟨by simp [Region.wanted], .inr ⟨79, #[.pointer (some ⟨cb, 0, none⟩), .int .u64 (hh : Int), .int .u8 (c.rt : Int)], by go_simp, hc.mono fun e W2 hr => hr.from hw⟩⟩
  · refine ⟨rfl, IsR.mono _, .inr fun _ _ _ h _ => h, fun a W hA hb hd => ⟨fun _ => takes_plain rfl ?_, fun e => absurd e (by decide)⟩⟩
    have h28 : a.tmps[28]?.getD undef = .tuple #[.int .u64 (g : Int), .int .i64 0] := (eval_get a 28).trans (by obtain ⟨h1, _⟩ := hd 7 (by simp) _ rfl; injection h1)
    refine yields_value _ ?_ rfl
    go_simp
  · refine ⟨rfl, IsR.mono _, .inr fun _ _ _ h _ => h, fun a W hA hb hd => ⟨fun _ => takes_plain rfl (yields_value _ ?_ rfl), fun e => absurd e (by decide)⟩⟩
    have h20 : a.tmps[20]?.getD undef = .tuple #[.int .u64 (g : Int), .int .i64 0] := (eval_get a 20).trans (hd 8 (by simp) _ rfl)
    go_simp
  · refine ⟨rfl, IsR.mono _, .inr fun _ _ _ h _ => h, fun a W hA hb hd => ⟨fun _ => takes_plain rfl (yields_value _ ?_ rfl), fun e => absurd e (by decide)⟩⟩
    have h20 : a.tmps[20]?.getD undef = .tuple #[.int .u64 (g : Int), .int .i64 0] := (eval_get a 20).trans (hd 8 (by simp) _ rfl)
    go_simp
  · refine ⟨rfl, IsR.mono _, .inr fun _ _ _ h _ => h, fun a W hA hb hd => ⟨fun _ => takes_plain rfl (yields_value _ ?_ rfl), fun e => absurd e (by decide)⟩⟩
    have h29 : a.tmps[29]?.getD undef = .int .u64 (g : Int) := (eval_get a 29).trans (hd 9 (by simp) _ rfl)
    go_simp
  intro vs W9 hR hb
  have e21 : vs 21 = .pointer (some ⟨x.1, 0, none⟩) := hR 0 _ rfl
  have e22 : vs 22 = .pointer (some ⟨x.1, 0, none⟩) := hR 1 _ rfl
  have e23 : vs 23 = .pointer (some ⟨x.1, 3, none⟩) := hR 2 _ rfl
  have e24 : vs 24 = .pointer (some ⟨cb, 0, none⟩) := hR 3 _ rfl
  have e25 : vs 25 = .int .u64 (hh : Int) := hR 4 _ rfl
  have e26 : vs 26 = .pointer (some ⟨w.heap.size, 8, none⟩) := hR 5 _ rfl
  have e27 : vs 27 = .int .u8 (c.rt : Int) := hR 6 _ rfl
  have e20 : vs 20 = .tuple #[.int .u64 (g : Int), .int .i64 0] := hR 8 _ rfl
  have e29 : vs 29 = .int .u64 (g : Int) := hR 9 _ rfl
  have e30 : vs 30 = .int .i64 0 := hR 10 _ rfl
  have e8 : vs 8 = .int .u64 (g : Int) := hR 11 _ rfl
  simp only [List.map_cons, List.map_nil, List.foldl_cons, List.foldl_nil, List.length_cons, List.length_nil, List.drop_succ_cons, List.drop_zero, Act.put, List.setIfInBounds_toArray, List.set_cons_zero, List.set_cons_succ, e21, e22, e23, e24, e25, e26, e27, e20, e29, e30, e8]
  have hr : CapR 0 cb mo w9 (.tuple #[.int .u64 (g : Int), .int .i64 0]) (giveH x.2.A hh c.rt).2 (.returned (vs 28)) W9 := hR 7 _ rfl
  generalize vs 28 = q28 at *
  have BW := Lib.hid B9.out
  have TW := Lib.hid T9.out
  have XW := Lib.hid X9.out
  have QW := Lib.hid (HQ.out.ab BW.out)
  have MW := Lib.hid (HM.out.stp (Stp.of (O' := cutTg O w.heap.size) BW.out (fun _ => False) fun _ _ => rfl) fun _ h => h)
  have XN : Hid (x.2.n = q) := Lib.hid (fnd_mem HFN.out).2
  clear hR hb e21 e22 e23 e24 e25 e26 e27 e20 e29 e30 e8
  obtain ⟨e28, mo', O1, k1, t1⟩ := caps_step TW.out XN.out hr
  have M1 := Lib.hid (MW.out.upd (t' := setA x.2 ((giveH x.2.A hh c.rt).2)) HFN.out k1 XN.out (setA_ok _ HOKT.out) ⟨_, _, _, _, _, t1⟩)
  have nz : ¬ ((0, 0) : Nat × Nat) = (s, q) := fun e => by injection e with _ e; have h1 := HOKT.out.n1; have h2 := XN.out; omega
  have Q1 : Hid (CbB W9 (w.heap.size + 1) 40 (ansE 0)) := Lib.hid ((k1.ot (k := w.heap.size + 1) QW.out.lt (cutTg_at (Nat.le_succ _)) nz).1.trans QW.out)
  have G1 : Hid (O1 (w.heap.size + 1) = some (0, 0)) := Lib.hid ((k1.tg _ QW.out.lt).trans (cutTg_at (Nat.le_succ _)))
  have x1 : CbB W9 w.heap.size 36 _ := (k1.ot (k := w.heap.size) XW.out.lt (cutTg_at (Nat.le_refl _)) nz).1.trans XW.out
  have x5 : W9.cell? ⟨w.heap.size, 5, none⟩ = some (.int .u64 (c.hd : Int)) := x1.cell (k := 5) rfl
  have S1 : Hid (Stp (fun τ => τ.1 = s) w O W9 O1) := Lib.hid (((Stp.cut HA.out _).ab BW.out).tr (k1.imp fun τ e => by rw [e]))
  injection e28 with e28
  subst e28
  clear k1 t1 hr nz x1
  have HHY := Lib.hid (handle_yes q g QL.out HG.out W9)
  go_wp2_with fail
  refine HHY.out.mono ?_
  rintro e w2 ⟨rfl, hb2⟩
  have Q1 := Lib.hid (Q1.out.ab hb2)
  have M1 := Lib.hid (M1.out.stp (Stp.of hb2 (fun _ => False) fun _ _ => rfl) fun _ h => h)
  have S1 := Lib.hid (S1.out.ab hb2)
  clear hb2 HHY
  go_wp2_with (first
    | (with_reducible refine wpList_storeC (o := ⟨none, .store _ (.tmp 4) (.tmp 37), _, _, _, _⟩) ?_ 40 (.tmp 4) (.tmp 37) ?_ (w.heap.size + 1) ?_ (ansH (q * 4294967296 + g)) ?_ (cs := ansE 0) (t := 40) Q1.out (szAnsH _) ?_ (ansH_one _) ?_
       · rfl
       · rfl
       · rfl
       · rfl
       · rfl
       intro wz hwz
       have QZ : Hid (CbB wz (w.heap.size + 1) 40 (ansH (q * 4294967296 + g))) := Lib.hid (by rw [hwz]; exact CbB.row Q1.out _)
       have FZ : Hid (Fr w2 wz (fun k => k = (w.heap.size + 1))) := Lib.hid (by rw [hwz]; exact fr_rowX _ _ _)
       clear hwz))
  refine bodyPost_ret (ans_results Tryz.results47 _ _ (w.heap.size + 1) (ansH (q * 4294967296 + g)) rfl QZ.out rfl) rfl ?_
  exact DoR.flat 0 (q * 4294967296 + g) 0 0 ⟨m, _, M1.out.stp (Stp.box FZ.out G1.out) fun i e => by have := M1.out.pos; injection e with e; omega⟩ (S1.out.fresh FZ.out (Nat.le_succ _))
set_option maxRecDepth 100000 in
set_option maxHeartbeats 1000000 in
theorem id_give_no (x : Nat × TnP) (h : IdM w O s blocks T m bs) (hc : c.Ok) (hf : fnd bs (c.hd / 4294967296) = some x) (hk : checkH x.2.A (c.hd % 4294967296) 0 = 0) (q hh : Nat) (hqe : c.hd / 4294967296 = q) (hhe : c.hd % 4294967296 = hh) (hal : x.2.A.length < 1000000) (g er : Nat) (he : (giveH x.2.A hh c.rt).1 = (g, er)) (h0 : 0 < er) :
    Calls Tryz.prog 47 #[.pointer (some ⟨s, 0, none⟩), .agg c.cs] w (DoR s blocks w O (errA (er : Int)) (updT q (setA x.2 (giveH x.2.A hh c.rt).2) T)) := by
  obtain ⟨cb, mo, sm, nb, es, ht⟩ := h.all x (fnd_mem hf).1
  have ha : Below w.heap.size w ((w.alloc (.cells #[.int .i64 c.kind, .int .u32 (c.ten : Int), .slice c.sec.A c.sec.n c.sec.c, .int .i64 c.quota, .int .i64 c.n, .int .u64 (c.hd : Int), .int .u64 (c.oth : Int), .int .u64 (c.sn : Int), .int .u8 (c.rt : Int), .slice c.oA c.oN c.oC, .slice c.key.A c.key.n c.key.c, .slice c.frm.A c.frm.n c.frm.c, .slice c.upto.A c.upto.n c.upto.c, .bool c.back] 36)).alloc (.cells #[.int .i64 0, .int .u64 0, .int .u64 0, .slice none 0 0, .slice none 0 0, .int .i64 0, .slice none 0 0] 40)) := ((Below.refl _ _).alloc (Nat.le_refl _) _).alloc (by simp) _
  have hcb : CbB ((w.alloc (.cells #[.int .i64 c.kind, .int .u32 (c.ten : Int), .slice c.sec.A c.sec.n c.sec.c, .int .i64 c.quota, .int .i64 c.n, .int .u64 (c.hd : Int), .int .u64 (c.oth : Int), .int .u64 (c.sn : Int), .int .u8 (c.rt : Int), .slice c.oA c.oN c.oC, .slice c.key.A c.key.n c.key.c, .slice c.frm.A c.frm.n c.frm.c, .slice c.upto.A c.upto.n c.upto.c, .bool c.back] 36)).alloc (.cells #[.int .i64 0, .int .u64 0, .int .u64 0, .slice none 0 0, .slice none 0 0, .int .i64 0, .slice none 0 0] 40)) w.heap.size 36 c.cs := (CbB.new w _ _).ab ((Below.refl _ _).alloc (Nat.le_refl _) _)
  have hqb : CbB ((w.alloc (.cells #[.int .i64 c.kind, .int .u32 (c.ten : Int), .slice c.sec.A c.sec.n c.sec.c, .int .i64 c.quota, .int .i64 c.n, .int .u64 (c.hd : Int), .int .u64 (c.oth : Int), .int .u64 (c.sn : Int), .int .u8 (c.rt : Int), .slice c.oA c.oN c.oC, .slice c.key.A c.key.n c.key.c, .slice c.frm.A c.frm.n c.frm.c, .slice c.upto.A c.upto.n c.upto.c, .bool c.back] 36)).alloc (.cells #[.int .i64 0, .int .u64 0, .int .u64 0, .slice none 0 0, .slice none 0 0, .int .i64 0, .slice none 0 0] 40)) (w.heap.size + 1) 40 (ansE 0) := CbB.newI (by simp)
  unfold CallP.cs at hcb ⊢
  go_enter Tryz.func47, Tryz.ntmps47
  go_upto_region 1 with (fail)
  obtain ⟨w0, hw0⟩ : ∃ w0, ((w.alloc (.cells #[.int .i64 c.kind, .int .u32 (c.ten : Int), .slice c.sec.A c.sec.n c.sec.c, .int .i64 c.quota, .int .i64 c.n, .int .u64 (c.hd : Int), .int .u64 (c.oth : Int), .int .u64 (c.sn : Int), .int .u8 (c.rt : Int), .slice c.oA c.oN c.oC, .slice c.key.A c.key.n c.key.c, .slice c.frm.A c.frm.n c.frm.c, .slice c.upto.A c.upto.n c.upto.c, .bool c.back] 36)).alloc (.cells #[.int .i64 0, .int .u64 0, .int .u64 0, .slice none 0 0, .slice none 0 0, .int .i64 0, .slice none 0 0] 40)) = w0 := ⟨_, rfl⟩
  rw [hw0] at ha hcb hqb ⊢
  clear hw0
  have c0 := (hcb).cell (k := 0) rfl
  have c1 := (hcb).cell (k := 1) rfl
  have c2 := (hcb).cell (k := 2) rfl
  have c3 := (hcb).cell (k := 3) rfl
  have c4 := (hcb).cell (k := 4) rfl
  have c5 := (hcb).cell (k := 5) rfl
  have c6 := (hcb).cell (k := 6) rfl
  have c7 := (hcb).cell (k := 7) rfl
  have c8 := (hcb).cell (k := 8) rfl
  have c9 := (hcb).cell (k := 9) rfl
  have c10 := (hcb).cell (k := 10) rfl
  have c11 := (hcb).cell (k := 11) rfl
  have c12 := (hcb).cell (k := 12) rfl
  have c13 := (hcb).cell (k := 13) rfl
  have HA := Lib.hid ha
  have HQ := Lib.hid hqb
  have HB := Lib.hid hcb
  have M0 := h.stp (Stp.cut ha (fun _ => False)) fun _ h => h
  have HM := Lib.hid M0
  have T0 := ht.stp (Stp.cut ha (fun _ => False)) fun h => h
  have HT := Lib.hid T0
  have HTW := Lib.hid ht
  have HH := Lib.hid (holder_some 0 x cb mo sm nb es M0 hc hf T0)
  rw [hk] at HH
  have CO := Lib.hid hc
  have HFN := Lib.hid hf
  have HMW := Lib.hid h
  have HOKT := Lib.hid (h.ok x (fnd_mem hf).1)
  have HQE := Lib.hid hqe
  rw [hhe] at HH
  have HAL := Lib.hid hal
  have hdv : (c.hd : Int) / 4294967296 = (q : Int) := by omega
  have hd0 : (0 : Int) ≤ (q : Int) := by omega
  have hd1 : (q : Int) < 4294967296 := by have := hc.hd; omega
  have QL : Hid (q < 4294967296) := Lib.hid (by have := hc.hd; omega)
  have HHO : Hid (u64Ok hh) := Lib.hid (by unfold u64Ok; omega)
  have HE := Lib.hid he
  have H0 := Lib.hid h0
  clear h ha hqb hcb hf hc M0 T0 ht hk hqe hhe hal he h0
  go_wp2_with fail
  refine HH.out.mono ?_
  rintro e w9 ⟨rfl, hb9⟩
  have B9 := Lib.hid hb9
  clear hb9 HH
  go_upto_region 4 with (fail)
  have T9 := Lib.hid (HT.out.stp (Stp.of (O' := cutTg O w.heap.size) B9.out (fun _ => False) fun _ _ => rfl) fun h => h)
  have X9 := Lib.hid (HB.out.ab B9.out)
  rw [HQE.out] at HFN
  have NB1 : Hid (¬ capF cb mo x.1) := Lib.hid fun e => by
    obtain ⟨a1, a2, _⟩ := T9.out.apart
    rcases e with e | e
    · exact a1 e
    · exact (a2 _ e).1 rfl
  have NB2 : Hid (¬ capF cb mo w.heap.size) := Lib.hid fun e => by
    rcases e with e | e
    · obtain ⟨l, h4, _⟩ := T9.out.caps.st
      have h5 := X9.out
      rw [e] at h5
      exact absurd rfl (cb_neX h5 h4.box (by decide))
    · obtain ⟨l, h4, _⟩ := T9.out.caps.st
      obtain ⟨es', cl, h6, _⟩ := (h4.map _ e).2
      have h5 := X9.out
      unfold CbB at h5
      rw [h6] at h5
      cases h5
  refine wp_wideW 7 (capF cb mo) [⟨21, IsR (.pointer (some ⟨x.1, 0, none⟩)), [], false⟩, ⟨22, IsR (.pointer (some ⟨x.1, 0, none⟩)), [0], false⟩, ⟨23, IsR (.pointer (some ⟨x.1, 3, none⟩)), [1], false⟩, ⟨24, IsR (.pointer (some ⟨cb, 0, none⟩)), [2], false⟩, ⟨25, IsR (.int .u64 (hh : Int)), [], false⟩, ⟨26, IsR (.pointer (some ⟨w.heap.size, 8, none⟩)), [], false⟩, ⟨27, IsR (.int .u8 (c.rt : Int)), [5], false⟩, ⟨28, CapVR cb mo w9 (.tuple #[.int .u64 (g : Int), .int .i64 (er : Int)]) (giveH x.2.A hh c.rt).2, [3, 4, 6], false⟩, ⟨20, IsR (.tuple #[.int .u64 (g : Int), .int .i64 (er : Int)]), [7], false⟩, ⟨29, IsR (.int .u64 (g : Int)), [8], false⟩, ⟨30, IsR (.int .i64 (er : Int)), [8], false⟩, ⟨8, IsR (.int .u64 (g : Int)), [9], false⟩] (by kernel_rfl) (by kernel_rfl) rfl rfl rfl ⟨?_, ?_, ?_, ?_, ?_, ?_, ?_, ?_, ?_, ?_, ?_, ?_, trivial⟩ ?_
  · refine ⟨rfl, IsR.mono _, .inr fun _ _ _ h _ => h, fun a W hA hb hd => ⟨fun _ => takes_plain rfl (yields_value _ ?_ rfl), fun e => absurd e (by decide)⟩⟩
    have h5 : a.tmps[5]?.getD undef = .pointer (some ⟨x.1, 0, none⟩) := (eval_get a 5).trans ((hA.eval (by simp)).trans rfl)
    go_simp
  · refine ⟨rfl, IsR.mono _, .inr fun _ _ _ h _ => h, fun a W hA hb hd => ⟨fun _ => takes_plain rfl (yields_value _ ?_ rfl), fun e => absurd e (by decide)⟩⟩
    have h21 : a.tmps[21]?.getD undef = .pointer (some ⟨x.1, 0, none⟩) := (eval_get a 21).trans (hd 0 (by simp) _ rfl)
    go_simp
  · refine ⟨rfl, IsR.mono _, .inr fun _ _ _ h _ => h, fun a W hA hb hd => ⟨fun _ => takes_plain rfl (yields_value _ ?_ rfl), fun e => absurd e (by decide)⟩⟩
    have h22 : a.tmps[22]?.getD undef = .pointer (some ⟨x.1, 0, none⟩) := (eval_get a 22).trans (hd 1 (by simp) _ rfl)
    go_simp
  · refine ⟨rfl, IsR.mono _, .inr fun _ _ _ h _ => h, fun a W hA hb hd => ⟨fun _ => takes_plain rfl (yields_value _ ?_ rfl), fun e => absurd e (by decide)⟩⟩
    have h23 : a.tmps[23]?.getD undef = .pointer (some ⟨x.1, 3, none⟩) := (eval_get a 23).trans (hd 2 (by simp) _ rfl)
    have hc : W.cell? (⟨x.1, 3, none⟩) = some (.pointer (some ⟨cb, 0, none⟩)) := (T9.out.box.fr hb NB1.out).cell (k := 3) rfl
    go_simp
  · refine ⟨rfl, IsR.mono _, .inr fun _ _ _ h _ => h, fun a W hA hb hd => ⟨fun _ => takes_plain rfl (yields_value _ ?_ rfl), fun e => absurd e (by decide)⟩⟩
    have h6 : a.tmps[6]?.getD undef = .int .u64 (hh : Int) := (eval_get a 6).trans ((hA.eval (by simp)).trans rfl)
    go_simp
  · refine ⟨rfl, IsR.mono _, .inr fun _ _ _ h _ => h, fun a W hA hb hd => ⟨fun _ => takes_plain rfl (yields_value _ ?_ rfl), fun e => absurd e (by decide)⟩⟩
    have h3 : a.tmps[3]?.getD undef = .pointer (some ⟨w.heap.size, 0, none⟩) := (eval_get a 3).trans ((hA.eval (by simp)).trans rfl)
    go_simp
  · refine ⟨rfl, IsR.mono _, .inr fun _ _ _ h _ => h, fun a W hA hb hd => ⟨fun _ => takes_plain rfl (yields_value _ ?_ rfl), fun e => absurd e (by decide)⟩⟩
    have h26 : a.tmps[26]?.getD undef = .pointer (some ⟨w.heap.size, 8, none⟩) := (eval_get a 26).trans (hd 5 (by simp) _ rfl)
    have hc : W.cell? (⟨w.heap.size, 8, none⟩) = some (.int .u8 (c.rt : Int)) := (X9.out.fr hb NB2.out).cell (k := 8) rfl
    go_simp
  · refine ⟨rfl, CapVR.mono _ _ _ _ _, .inl rfl, fun a W hA hb hd => ⟨fun e => absurd rfl e, fun _ hw => ?_⟩⟩
    have h24 : a.tmps[24]?.getD undef = .pointer (some ⟨cb, 0, none⟩) := (eval_get a 24).trans (hd 3 (by simp) _ rfl)
    have h25 : a.tmps[25]?.getD undef = .int .u64 (hh : Int) := (eval_get a 25).trans (hd 4 (by simp) _ rfl)
    have h27 : a.tmps[27]?.getD undef = .int .u8 (c.rt : Int) := (eval_get a 27).trans (hd 6 (by simp) _ rfl)
    have tw := T9.out.stp (Stp.of (O' := cutTg O w.heap.size) hw (fun _ => False) fun _ _ => rfl) fun h => h
    have hc := giveA_any hh c.rt tw.caps HHO.out HAL.out
    rw [HE.out] at hc
    refine .inl ⟨by simp [Region.wanted], .inr ⟨79, #[.pointer (some ⟨cb, 0, none⟩), .int .u64 (hh : Int), .int .u8 (c.rt : Int)], by go_simp, hc.mono fun e W2 hr => hr.from hw⟩⟩
  · refine ⟨rfl, IsR.mono _, .inr fun _ _ _ h _ => h, fun a W hA hb hd => ⟨fun _ => takes_plain rfl ?_, fun e => absurd e (by decide)⟩⟩
    have h28 : a.tmps[28]?.getD undef = .tuple #[.int .u64 (g : Int), .int .i64 (er : Int)] := (eval_get a 28).trans (by obtain ⟨h1, _⟩ := hd 7 (by simp) _ rfl; injection h1)
    refine yields_value _ ?_ rfl
    go_simp
  · refine ⟨rfl, IsR.mono _, .inr fun _ _ _ h _ => h, fun a W hA hb hd => ⟨fun _ => takes_plain rfl (yields_value _ ?_ rfl), fun e => absurd e (by decide)⟩⟩
    have h20 : a.tmps[20]?.getD undef = .tuple #[.int .u64 (g : Int), .int .i64 (er : Int)] := (eval_get a 20).trans (hd 8 (by simp) _ rfl)
    go_simp
  · refine ⟨rfl, IsR.mono _, .inr fun _ _ _ h _ => h, fun a W hA hb hd => ⟨fun _ => takes_plain rfl (yields_value _ ?_ rfl), fun e => absurd e (by decide)⟩⟩
    have h20 : a.tmps[20]?.getD undef = .tuple #[.int .u64 (g : Int), .int .i64 (er : Int)] := (eval_get a 20).trans (hd 8 (by simp) _ rfl)
    go_simp
  · refine ⟨rfl, IsR.mono _, .inr fun _ _ _ h _ => h, fun a W hA hb hd => ⟨fun _ => takes_plain rfl (yields_value _ ?_ rfl), fun e => absurd e (by decide)⟩⟩
    have h29 : a.tmps[29]?.getD undef = .int .u64 (g : Int) := (eval_get a 29).trans (hd 9 (by simp) _ rfl)
    go_simp
  intro vs W9 hR hb
  have e21 : vs 21 = .pointer (some ⟨x.1, 0, none⟩) := hR 0 _ rfl
  have e22 : vs 22 = .pointer (some ⟨x.1, 0, none⟩) := hR 1 _ rfl
  have e23 : vs 23 = .pointer (some ⟨x.1, 3, none⟩) := hR 2 _ rfl
  have e24 : vs 24 = .pointer (some ⟨cb, 0, none⟩) := hR 3 _ rfl
  have e25 : vs 25 = .int .u64 (hh : Int) := hR 4 _ rfl
  have e26 : vs 26 = .pointer (some ⟨w.heap.size, 8, none⟩) := hR 5 _ rfl
  have e27 : vs 27 = .int .u8 (c.rt : Int) := hR 6 _ rfl
  have e20 : vs 20 = .tuple #[.int .u64 (g : Int), .int .i64 (er : Int)] := hR 8 _ rfl
  have e29 : vs 29 = .int .u64 (g : Int) := hR 9 _ rfl
  have e30 : vs 30 = .int .i64 (er : Int) := hR 10 _ rfl
  have e8 : vs 8 = .int .u64 (g : Int) := hR 11 _ rfl
  simp only [List.map_cons, List.map_nil, List.foldl_cons, List.foldl_nil, List.length_cons, List.length_nil, List.drop_succ_cons, List.drop_zero, Act.put, List.setIfInBounds_toArray, List.set_cons_zero, List.set_cons_succ, e21, e22, e23, e24, e25, e26, e27, e20, e29, e30, e8]
  have hr : CapR 0 cb mo w9 (.tuple #[.int .u64 (g : Int), .int .i64 (er : Int)]) (giveH x.2.A hh c.rt).2 (.returned (vs 28)) W9 := hR 7 _ rfl
  generalize vs 28 = q28 at *
  have BW := Lib.hid B9.out
  have TW := Lib.hid T9.out
  have XW := Lib.hid X9.out
  have QW := Lib.hid (HQ.out.ab BW.out)
  have MW := Lib.hid (HM.out.stp (Stp.of (O' := cutTg O w.heap.size) BW.out (fun _ => False) fun _ _ => rfl) fun _ h => h)
  have XN : Hid (x.2.n = q) := Lib.hid (fnd_mem HFN.out).2
  clear hR hb e21 e22 e23 e24 e25 e26 e27 e20 e29 e30 e8
  obtain ⟨e28, mo', O1, k1, t1⟩ := caps_step TW.out XN.out hr
  have M1 := Lib.hid (MW.out.upd (t' := setA x.2 ((giveH x.2.A hh c.rt).2)) HFN.out k1 XN.out (setA_ok _ HOKT.out) ⟨_, _, _, _, _, t1⟩)
  have nz : ¬ ((0, 0) : Nat × Nat) = (s, q) := fun e => by injection e with _ e; have h1 := HOKT.out.n1; have h2 := XN.out; omega
  have Q1 : Hid (CbB W9 (w.heap.size + 1) 40 (ansE 0)) := Lib.hid ((k1.ot (k := w.heap.size + 1) QW.out.lt (cutTg_at (Nat.le_succ _)) nz).1.trans QW.out)
  have G1 : Hid (O1 (w.heap.size + 1) = some (0, 0)) := Lib.hid ((k1.tg _ QW.out.lt).trans (cutTg_at (Nat.le_succ _)))
  have x1 : CbB W9 w.heap.size 36 _ := (k1.ot (k := w.heap.size) XW.out.lt (cutTg_at (Nat.le_refl _)) nz).1.trans XW.out
  have x5 : W9.cell? ⟨w.heap.size, 5, none⟩ = some (.int .u64 (c.hd : Int)) := x1.cell (k := 5) rfl
  have S1 : Hid (Stp (fun τ => τ.1 = s) w O W9 O1) := Lib.hid (((Stp.cut HA.out _).ab BW.out).tr (k1.imp fun τ e => by rw [e]))
  injection e28 with e28
  subst e28
  clear k1 t1 hr nz x1
  have HHY := Lib.hid (handle_no q g er H0.out W9)
  go_wp2_with fail
  refine HHY.out.mono ?_
  rintro e w2 ⟨rfl, hb2⟩
  have Q1 := Lib.hid (Q1.out.ab hb2)
  have M1 := Lib.hid (M1.out.stp (Stp.of hb2 (fun _ => False) fun _ _ => rfl) fun _ h => h)
  have S1 := Lib.hid (S1.out.ab hb2)
  clear hb2 HHY
  go_wp2_with (first
    | (with_reducible refine wpList_storeC (o := ⟨none, .store _ (.tmp 4) (.tmp 37), _, _, _, _⟩) ?_ 40 (.tmp 4) (.tmp 37) ?_ (w.heap.size + 1) ?_ (ansE (er : Int)) ?_ (cs := ansE 0) (t := 40) Q1.out (szAnsE _) ?_ (ansE_one _) ?_
       · rfl
       · rfl
       · rfl
       · rfl
       · rfl
       intro wz hwz
       have QZ : Hid (CbB wz (w.heap.size + 1) 40 (ansE (er : Int))) := Lib.hid (by rw [hwz]; exact CbB.row Q1.out _)
       have FZ : Hid (Fr w2 wz (fun k => k = (w.heap.size + 1))) := Lib.hid (by rw [hwz]; exact fr_rowX _ _ _)
       clear hwz))
  refine bodyPost_ret (ans_results Tryz.results47 _ _ (w.heap.size + 1) (ansE (er : Int)) rfl QZ.out rfl) rfl ?_
  exact DoR.flat (er : Int) 0 0 0 ⟨m, _, M1.out.stp (Stp.box FZ.out G1.out) fun i e => by have := M1.out.pos; injection e with e; omega⟩ (S1.out.fresh FZ.out (Nat.le_succ _))
set_option maxRecDepth 100000 in
set_option maxHeartbeats 1000000 in
theorem id_revoke_far (x : Nat × TnP) (h : IdM w O s blocks T m bs) (hc : c.Ok) (hf : fnd bs (c.hd / 4294967296) = some x) (hk : checkH x.2.A (c.hd % 4294967296) 0 = 0) (q hh : Nat) (hqe : c.hd / 4294967296 = q) (hhe : c.hd % 4294967296 = hh) (hal : x.2.A.length < 1000000) (ot oq : Nat) (hot : c.oth / 4294967296 = oq) (hoh : c.oth % 4294967296 = ot) (hn : ¬ oq = q) :
    Calls Tryz.prog 48 #[.pointer (some ⟨s, 0, none⟩), .agg c.cs] w (DoR s blocks w O (errA 7) T) := by
  obtain ⟨cb, mo, sm, nb, es, ht⟩ := h.all x (fnd_mem hf).1
  have ha : Below w.heap.size w ((w.alloc (.cells #[.int .i64 c.kind, .int .u32 (c.ten : Int), .slice c.sec.A c.sec.n c.sec.c, .int .i64 c.quota, .int .i64 c.n, .int .u64 (c.hd : Int), .int .u64 (c.oth : Int), .int .u64 (c.sn : Int), .int .u8 (c.rt : Int), .slice c.oA c.oN c.oC, .slice c.key.A c.key.n c.key.c, .slice c.frm.A c.frm.n c.frm.c, .slice c.upto.A c.upto.n c.upto.c, .bool c.back] 36)).alloc (.cells #[.int .i64 0, .int .u64 0, .int .u64 0, .slice none 0 0, .slice none 0 0, .int .i64 0, .slice none 0 0] 40)) := ((Below.refl _ _).alloc (Nat.le_refl _) _).alloc (by simp) _
  have hcb : CbB ((w.alloc (.cells #[.int .i64 c.kind, .int .u32 (c.ten : Int), .slice c.sec.A c.sec.n c.sec.c, .int .i64 c.quota, .int .i64 c.n, .int .u64 (c.hd : Int), .int .u64 (c.oth : Int), .int .u64 (c.sn : Int), .int .u8 (c.rt : Int), .slice c.oA c.oN c.oC, .slice c.key.A c.key.n c.key.c, .slice c.frm.A c.frm.n c.frm.c, .slice c.upto.A c.upto.n c.upto.c, .bool c.back] 36)).alloc (.cells #[.int .i64 0, .int .u64 0, .int .u64 0, .slice none 0 0, .slice none 0 0, .int .i64 0, .slice none 0 0] 40)) w.heap.size 36 c.cs := (CbB.new w _ _).ab ((Below.refl _ _).alloc (Nat.le_refl _) _)
  have hqb : CbB ((w.alloc (.cells #[.int .i64 c.kind, .int .u32 (c.ten : Int), .slice c.sec.A c.sec.n c.sec.c, .int .i64 c.quota, .int .i64 c.n, .int .u64 (c.hd : Int), .int .u64 (c.oth : Int), .int .u64 (c.sn : Int), .int .u8 (c.rt : Int), .slice c.oA c.oN c.oC, .slice c.key.A c.key.n c.key.c, .slice c.frm.A c.frm.n c.frm.c, .slice c.upto.A c.upto.n c.upto.c, .bool c.back] 36)).alloc (.cells #[.int .i64 0, .int .u64 0, .int .u64 0, .slice none 0 0, .slice none 0 0, .int .i64 0, .slice none 0 0] 40)) (w.heap.size + 1) 40 (ansE 0) := CbB.newI (by simp)
  unfold CallP.cs at hcb ⊢
  go_enter Tryz.func48, Tryz.ntmps48
  go_upto_region 1 with (fail)
  obtain ⟨w0, hw0⟩ : ∃ w0, ((w.alloc (.cells #[.int .i64 c.kind, .int .u32 (c.ten : Int), .slice c.sec.A c.sec.n c.sec.c, .int .i64 c.quota, .int .i64 c.n, .int .u64 (c.hd : Int), .int .u64 (c.oth : Int), .int .u64 (c.sn : Int), .int .u8 (c.rt : Int), .slice c.oA c.oN c.oC, .slice c.key.A c.key.n c.key.c, .slice c.frm.A c.frm.n c.frm.c, .slice c.upto.A c.upto.n c.upto.c, .bool c.back] 36)).alloc (.cells #[.int .i64 0, .int .u64 0, .int .u64 0, .slice none 0 0, .slice none 0 0, .int .i64 0, .slice none 0 0] 40)) = w0 := ⟨_, rfl⟩
  rw [hw0] at ha hcb hqb ⊢
  clear hw0
  have c0 := (hcb).cell (k := 0) rfl
  have c1 := (hcb).cell (k := 1) rfl
  have c2 := (hcb).cell (k := 2) rfl
  have c3 := (hcb).cell (k := 3) rfl
  have c4 := (hcb).cell (k := 4) rfl
  have c5 := (hcb).cell (k := 5) rfl
  have c6 := (hcb).cell (k := 6) rfl
  have c7 := (hcb).cell (k := 7) rfl
  have c8 := (hcb).cell (k := 8) rfl
  have c9 := (hcb).cell (k := 9) rfl
  have c10 := (hcb).cell (k := 10) rfl
  have c11 := (hcb).cell (k := 11) rfl
  have c12 := (hcb).cell (k := 12) rfl
  have c13 := (hcb).cell (k := 13) rfl
  have HA := Lib.hid ha
  have HQ := Lib.hid hqb
  have HB := Lib.hid hcb
  have M0 := h.stp (Stp.cut ha (fun _ => False)) fun _ h => h
  have HM := Lib.hid M0
  have T0 := ht.stp (Stp.cut ha (fun _ => False)) fun h => h
  have HT := Lib.hid T0
  have HTW := Lib.hid ht
  have HH := Lib.hid (holder_some 0 x cb mo sm nb es M0 hc hf T0)
  rw [hk] at HH
  have CO := Lib.hid hc
  have HFN := Lib.hid hf
  have HMW := Lib.hid h
  have HOKT := Lib.hid (h.ok x (fnd_mem hf).1)
  have HQE := Lib.hid hqe
  rw [hhe] at HH
  have HAL := Lib.hid hal
  have hdv : (c.hd : Int) / 4294967296 = (q : Int) := by omega
  have hd0 : (0 : Int) ≤ (q : Int) := by omega
  have hd1 : (q : Int) < 4294967296 := by have := hc.hd; omega
  have QL : Hid (q < 4294967296) := Lib.hid (by have := hc.hd; omega)
  have HHO : Hid (u64Ok hh) := Lib.hid (by unfold u64Ok; omega)
  have hov : (c.oth : Int) / 4294967296 = (oq : Int) := by omega
  have ho0 : (0 : Int) ≤ (oq : Int) := by omega
  have hmk := u64_mask32 c.oth hc.oth
  rw [hoh] at hmk
  have OTO : Hid (u64Ok ot) := Lib.hid (by unfold u64Ok; omega)
  have hne : ((oq : Int) != (q : Int)) = true := by simp; omega
  have hn2 : ¬ oq = q := hn
  have HF := Lib.hid fun W => fails_any 7 W
  clear h ha hqb hcb hf hc M0 T0 ht hk hqe hhe hal hot hoh hn
  go_wp2_with fail
  refine HH.out.mono ?_
  rintro e w9 ⟨rfl, hb9⟩
  have B9 := Lib.hid hb9
  clear hb9 HH
  have q5 := (HB.out.ab B9.out).cell (k := 5) rfl
  have q6 := (HB.out.ab B9.out).cell (k := 6) rfl
  go_wp2_with fail
  refine (HF.out _).mono ?_
  rintro e w1 ⟨rfl, hb⟩
  have B1 : Hid (Below w0.heap.size w0 w1) := Lib.hid (below_tr B9.out hb B9.out.size)
  have Q1 := Lib.hid (HQ.out.ab B1.out)
  have M1 := Lib.hid (HM.out.stp (Stp.of B1.out (fun _ => False) fun _ _ => rfl) fun _ h => h)
  have S1 : Hid (Stp (fun τ => τ.1 = s) w O w1 (cutTg O w.heap.size)) := Lib.hid ((Stp.cut HA.out _).ab B1.out)
  clear hb HQ HM B1
  go_wp2_with (first
    | (with_reducible refine wpList_storeC (o := ⟨none, .store _ (.tmp 4) (.tmp 28), _, _, _, _⟩) ?_ 40 (.tmp 4) (.tmp 28) ?_ (w.heap.size + 1) ?_ (ansE 7) ?_ (cs := ansE 0) (t := 40) Q1.out (szAnsE _) ?_ (ansE_one _) ?_
       · rfl
       · rfl
       · rfl
       · rfl
       · rfl
       intro wz hwz
       have QZ : Hid (CbB wz (w.heap.size + 1) 40 (ansE 7)) := Lib.hid (by rw [hwz]; exact CbB.row Q1.out _)
       have FZ : Hid (Fr w1 wz (fun k => k = (w.heap.size + 1))) := Lib.hid (by rw [hwz]; exact fr_rowX _ _ _)
       clear hwz))
  refine bodyPost_ret (ans_results Tryz.results48 _ _ (w.heap.size + 1) (ansE 7) rfl QZ.out rfl) rfl ?_
  exact DoR.flat 7 0 0 0 ⟨m, bs, M1.out.stp (Stp.box FZ.out (cutTg_at (Nat.le_succ _))) fun i e => by have := M1.out.pos; injection e with e; omega⟩ (S1.out.fresh FZ.out (Nat.le_succ _))
set_option maxRecDepth 100000 in
set_option maxHeartbeats 1000000 in
theorem id_revoke_any (x : Nat × TnP) (h : IdM w O s blocks T m bs) (hc : c.Ok) (hf : fnd bs (c.hd / 4294967296) = some x) (hk : checkH x.2.A (c.hd % 4294967296) 0 = 0) (q hh : Nat) (hqe : c.hd / 4294967296 = q) (hhe : c.hd % 4294967296 = hh) (hal : x.2.A.length < 1000000) (ot oq : Nat) (hot : c.oth / 4294967296 = oq) (hoh : c.oth % 4294967296 = ot) (hn : oq = q) :
    Calls Tryz.prog 48 #[.pointer (some ⟨s, 0, none⟩), .agg c.cs] w (DoR s blocks w O (errA ((revokeH x.2.A hh ot).1 : Int)) (updT q (setA x.2 (revokeH x.2.A hh ot).2) T)) := by
  obtain ⟨cb, mo, sm, nb, es, ht⟩ := h.all x (fnd_mem hf).1
  have ha : Below w.heap.size w ((w.alloc (.cells #[.int .i64 c.kind, .int .u32 (c.ten : Int), .slice c.sec.A c.sec.n c.sec.c, .int .i64 c.quota, .int .i64 c.n, .int .u64 (c.hd : Int), .int .u64 (c.oth : Int), .int .u64 (c.sn : Int), .int .u8 (c.rt : Int), .slice c.oA c.oN c.oC, .slice c.key.A c.key.n c.key.c, .slice c.frm.A c.frm.n c.frm.c, .slice c.upto.A c.upto.n c.upto.c, .bool c.back] 36)).alloc (.cells #[.int .i64 0, .int .u64 0, .int .u64 0, .slice none 0 0, .slice none 0 0, .int .i64 0, .slice none 0 0] 40)) := ((Below.refl _ _).alloc (Nat.le_refl _) _).alloc (by simp) _
  have hcb : CbB ((w.alloc (.cells #[.int .i64 c.kind, .int .u32 (c.ten : Int), .slice c.sec.A c.sec.n c.sec.c, .int .i64 c.quota, .int .i64 c.n, .int .u64 (c.hd : Int), .int .u64 (c.oth : Int), .int .u64 (c.sn : Int), .int .u8 (c.rt : Int), .slice c.oA c.oN c.oC, .slice c.key.A c.key.n c.key.c, .slice c.frm.A c.frm.n c.frm.c, .slice c.upto.A c.upto.n c.upto.c, .bool c.back] 36)).alloc (.cells #[.int .i64 0, .int .u64 0, .int .u64 0, .slice none 0 0, .slice none 0 0, .int .i64 0, .slice none 0 0] 40)) w.heap.size 36 c.cs := (CbB.new w _ _).ab ((Below.refl _ _).alloc (Nat.le_refl _) _)
  have hqb : CbB ((w.alloc (.cells #[.int .i64 c.kind, .int .u32 (c.ten : Int), .slice c.sec.A c.sec.n c.sec.c, .int .i64 c.quota, .int .i64 c.n, .int .u64 (c.hd : Int), .int .u64 (c.oth : Int), .int .u64 (c.sn : Int), .int .u8 (c.rt : Int), .slice c.oA c.oN c.oC, .slice c.key.A c.key.n c.key.c, .slice c.frm.A c.frm.n c.frm.c, .slice c.upto.A c.upto.n c.upto.c, .bool c.back] 36)).alloc (.cells #[.int .i64 0, .int .u64 0, .int .u64 0, .slice none 0 0, .slice none 0 0, .int .i64 0, .slice none 0 0] 40)) (w.heap.size + 1) 40 (ansE 0) := CbB.newI (by simp)
  unfold CallP.cs at hcb ⊢
  go_enter Tryz.func48, Tryz.ntmps48
  go_upto_region 1 with (fail)
  obtain ⟨w0, hw0⟩ : ∃ w0, ((w.alloc (.cells #[.int .i64 c.kind, .int .u32 (c.ten : Int), .slice c.sec.A c.sec.n c.sec.c, .int .i64 c.quota, .int .i64 c.n, .int .u64 (c.hd : Int), .int .u64 (c.oth : Int), .int .u64 (c.sn : Int), .int .u8 (c.rt : Int), .slice c.oA c.oN c.oC, .slice c.key.A c.key.n c.key.c, .slice c.frm.A c.frm.n c.frm.c, .slice c.upto.A c.upto.n c.upto.c, .bool c.back] 36)).alloc (.cells #[.int .i64 0, .int .u64 0, .int .u64 0, .slice none 0 0, .slice none 0 0, .int .i64 0, .slice none 0 0] 40)) = w0 := ⟨_, rfl⟩
  rw [hw0] at ha hcb hqb ⊢
  clear hw0
  have c0 := (hcb).cell (k := 0) rfl
  have c1 := (hcb).cell (k := 1) rfl
  have c2 := (hcb).cell (k := 2) rfl
  have c3 := (hcb).cell (k := 3) rfl
  have c4 := (hcb).cell (k := 4) rfl
  have c5 := (hcb).cell (k := 5) rfl
  have c6 := (hcb).cell (k := 6) rfl
  have c7 := (hcb).cell (k := 7) rfl
  have c8 := (hcb).cell (k := 8) rfl
  have c9 := (hcb).cell (k := 9) rfl
  have c10 := (hcb).cell (k := 10) rfl
  have c11 := (hcb).cell (k := 11) rfl
  have c12 := (hcb).cell (k := 12) rfl
  have c13 := (hcb).cell (k := 13) rfl
  have HA := Lib.hid ha
  have HQ := Lib.hid hqb
  have HB := Lib.hid hcb
  have M0 := h.stp (Stp.cut ha (fun _ => False)) fun _ h => h
  have HM := Lib.hid M0
  have T0 := ht.stp (Stp.cut ha (fun _ => False)) fun h => h
  have HT := Lib.hid T0
  have HTW := Lib.hid ht
  have HH := Lib.hid (holder_some 0 x cb mo sm nb es M0 hc hf T0)
  rw [hk] at HH
  have CO := Lib.hid hc
  have HFN := Lib.hid hf
  have HMW := Lib.hid h
  have HOKT := Lib.hid (h.ok x (fnd_mem hf).1)
  have HQE := Lib.hid hqe
  rw [hhe] at HH
  have HAL := Lib.hid hal
  have hdv : (c.hd : Int) / 4294967296 = (q : Int) := by omega
  have hd0 : (0 : Int) ≤ (q : Int) := by omega
  have hd1 : (q : Int) < 4294967296 := by have := hc.hd; omega
  have QL : Hid (q < 4294967296) := Lib.hid (by have := hc.hd; omega)
  have HHO : Hid (u64Ok hh) := Lib.hid (by unfold u64Ok; omega)
  have hov : (c.oth : Int) / 4294967296 = (oq : Int) := by omega
  have ho0 : (0 : Int) ≤ (oq : Int) := by omega
  have hmk := u64_mask32 c.oth hc.oth
  rw [hoh] at hmk
  have OTO : Hid (u64Ok ot) := Lib.hid (by unfold u64Ok; omega)
  have hne : ((oq : Int) != (q : Int)) = false := by simp; omega
  have hn2 : oq = q := hn
  clear h ha hqb hcb hf hc M0 T0 ht hk hqe hhe hal hot hoh hn
  go_wp2_with fail
  refine HH.out.mono ?_
  rintro e w9 ⟨rfl, hb9⟩
  have B9 := Lib.hid hb9
  clear hb9 HH
  have q5 := (HB.out.ab B9.out).cell (k := 5) rfl
  have q6 := (HB.out.ab B9.out).cell (k := 6) rfl
  go_upto_region 6 with (fail)
  have T9 := Lib.hid (HT.out.stp (Stp.of (O' := cutTg O w.heap.size) B9.out (fun _ => False) fun _ _ => rfl) fun h => h)
  have X9 := Lib.hid (HB.out.ab B9.out)
  rw [HQE.out] at HFN
  refine wp_wide3 [⟨29, IsR (.pointer (some ⟨x.1, 0, none⟩)), [], false⟩, ⟨30, IsR (.pointer (some ⟨x.1, 0, none⟩)), [0], false⟩, ⟨31, IsR (.pointer (some ⟨x.1, 3, none⟩)), [1], false⟩, ⟨32, IsR (.pointer (some ⟨cb, 0, none⟩)), [2], false⟩, ⟨33, IsR (.int .u64 (hh : Int)), [], false⟩, ⟨34, IsR (.pointer (some ⟨w.heap.size, 6, none⟩)), [], false⟩, ⟨35, IsR (.int .u64 (c.oth : Int)), [5], false⟩, ⟨36, IsR (.int .u64 (ot : Int)), [6], false⟩] (by kernel_rfl) (by kernel_rfl) rfl rfl rfl ⟨?_, ?_, ?_, ?_, ?_, ?_, ?_, ?_, trivial⟩ ?_
  · refine ⟨rfl, IsR.mono _, fun a W hA hb hd => takes_plain rfl (yields_value _ ?_ rfl)⟩
    have h5 : a.tmps[5]?.getD undef = .pointer (some ⟨x.1, 0, none⟩) := (eval_get a 5).trans ((hA.eval (by simp)).trans rfl)
    go_simp
  · refine ⟨rfl, IsR.mono _, fun a W hA hb hd => takes_plain rfl (yields_value _ ?_ rfl)⟩
    have h29 : a.tmps[29]?.getD undef = .pointer (some ⟨x.1, 0, none⟩) := (eval_get a 29).trans (hd 0 (by simp) _ rfl)
    go_simp
  · refine ⟨rfl, IsR.mono _, fun a W hA hb hd => takes_plain rfl (yields_value _ ?_ rfl)⟩
    have h30 : a.tmps[30]?.getD undef = .pointer (some ⟨x.1, 0, none⟩) := (eval_get a 30).trans (hd 1 (by simp) _ rfl)
    go_simp
  · refine ⟨rfl, IsR.mono _, fun a W hA hb hd => takes_plain rfl (yields_value _ ?_ rfl)⟩
    have h31 : a.tmps[31]?.getD undef = .pointer (some ⟨x.1, 3, none⟩) := (eval_get a 31).trans (hd 2 (by simp) _ rfl)
    have hc : W.cell? (⟨x.1, 3, none⟩) = some (.pointer (some ⟨cb, 0, none⟩)) := (T9.out.box.ab hb).cell (k := 3) rfl
    go_simp
  · refine ⟨rfl, IsR.mono _, fun a W hA hb hd => takes_plain rfl (yields_value _ ?_ rfl)⟩
    have h6 : a.tmps[6]?.getD undef = .int .u64 (hh : Int) := (eval_get a 6).trans ((hA.eval (by simp)).trans rfl)
    go_simp
  · refine ⟨rfl, IsR.mono _, fun a W hA hb hd => takes_plain rfl (yields_value _ ?_ rfl)⟩
    have h3 : a.tmps[3]?.getD undef = .pointer (some ⟨w.heap.size, 0, none⟩) := (eval_get a 3).trans ((hA.eval (by simp)).trans rfl)
    go_simp
  · refine ⟨rfl, IsR.mono _, fun a W hA hb hd => takes_plain rfl (yields_value _ ?_ rfl)⟩
    have h34 : a.tmps[34]?.getD undef = .pointer (some ⟨w.heap.size, 6, none⟩) := (eval_get a 34).trans (hd 5 (by simp) _ rfl)
    have hc : W.cell? (⟨w.heap.size, 6, none⟩) = some (.int .u64 (c.oth : Int)) := (X9.out.ab hb).cell (k := 6) rfl
    go_simp
  · refine ⟨rfl, IsR.mono _, fun a W hA hb hd => takes_plain rfl (yields_value _ ?_ rfl)⟩
    have h35 : a.tmps[35]?.getD undef = .int .u64 (c.oth : Int) := (eval_get a 35).trans (hd 6 (by simp) _ rfl)
    go_simp
  intro vs W9 hR hF hb
  have e29 : vs 29 = .pointer (some ⟨x.1, 0, none⟩) := hR 0 _ rfl
  have e30 : vs 30 = .pointer (some ⟨x.1, 0, none⟩) := hR 1 _ rfl
  have e31 : vs 31 = .pointer (some ⟨x.1, 3, none⟩) := hR 2 _ rfl
  have e32 : vs 32 = .pointer (some ⟨cb, 0, none⟩) := hR 3 _ rfl
  have e33 : vs 33 = .int .u64 (hh : Int) := hR 4 _ rfl
  have e34 : vs 34 = .pointer (some ⟨w.heap.size, 6, none⟩) := hR 5 _ rfl
  have e35 : vs 35 = .int .u64 (c.oth : Int) := hR 6 _ rfl
  have e36 : vs 36 = .int .u64 (ot : Int) := hR 7 _ rfl
  simp only [List.map_cons, List.map_nil, List.foldl_cons, List.foldl_nil, List.length_cons, List.length_nil, List.drop_succ_cons, List.drop_zero, Act.put, List.setIfInBounds_toArray, List.set_cons_zero, List.set_cons_succ, e29, e30, e31, e32, e33, e34, e35, e36]
  have BW := Lib.hid (below_tr B9.out hb B9.out.size)
  have TW := Lib.hid (T9.out.stp (Stp.of (O' := cutTg O w.heap.size) hb (fun _ => False) fun _ _ => rfl) fun h => h)
  have XW := Lib.hid (X9.out.ab hb)
  have QW := Lib.hid (HQ.out.ab BW.out)
  have MW := Lib.hid (HM.out.stp (Stp.of (O' := cutTg O w.heap.size) BW.out (fun _ => False) fun _ _ => rfl) fun _ h => h)
  have XN : Hid (x.2.n = q) := Lib.hid (fnd_mem HFN.out).2
  clear hR hF hb
  have HC := Lib.hid (revokeA_any TW.out.caps HHO.out OTO.out HAL.out)
  go_wp2_with fail
  refine HC.out.mono ?_
  intro e w1 hr
  obtain ⟨rfl, mo', O1, k1, t1⟩ := caps_step TW.out XN.out hr
  have M1 := Lib.hid (MW.out.upd (t' := setA x.2 ((revokeH x.2.A hh ot).2)) HFN.out k1 XN.out (setA_ok _ HOKT.out) ⟨_, _, _, _, _, t1⟩)
  have nz : ¬ ((0, 0) : Nat × Nat) = (s, q) := fun e => by injection e with _ e; have h1 := HOKT.out.n1; have h2 := XN.out; omega
  have Q1 : Hid (CbB w1 (w.heap.size + 1) 40 (ansE 0)) := Lib.hid ((k1.ot (k := w.heap.size + 1) QW.out.lt (cutTg_at (Nat.le_succ _)) nz).1.trans QW.out)
  have G1 : Hid (O1 (w.heap.size + 1) = some (0, 0)) := Lib.hid ((k1.tg _ QW.out.lt).trans (cutTg_at (Nat.le_succ _)))
  have x1 : CbB w1 w.heap.size 36 _ := (k1.ot (k := w.heap.size) XW.out.lt (cutTg_at (Nat.le_refl _)) nz).1.trans XW.out
  have x5 : w1.cell? ⟨w.heap.size, 5, none⟩ = some (.int .u64 (c.hd : Int)) := x1.cell (k := 5) rfl
  have S1 : Hid (Stp (fun τ => τ.1 = s) w O w1 O1) := Lib.hid (((Stp.cut HA.out _).ab BW.out).tr (k1.imp fun τ e => by rw [e]))
  clear k1 t1 hr nz x1
  have HF := Lib.hid (fails_any ((revokeH x.2.A hh ot).1 : Int) w1)
  go_wp2_with fail
  refine HF.out.mono ?_
  rintro e w2 ⟨rfl, hb2⟩
  have Q1 := Lib.hid (Q1.out.ab hb2)
  have M1 := Lib.hid (M1.out.stp (Stp.of hb2 (fun _ => False) fun _ _ => rfl) fun _ h => h)
  have S1 := Lib.hid (S1.out.ab hb2)
  clear hb2 HF
  go_wp2_with (first
    | (with_reducible refine wpList_storeC (o := ⟨none, .store _ (.tmp 4) (.tmp 38), _, _, _, _⟩) ?_ 40 (.tmp 4) (.tmp 38) ?_ (w.heap.size + 1) ?_ (ansE ((revokeH x.2.A hh ot).1 : Int)) ?_ (cs := ansE 0) (t := 40) Q1.out (szAnsE _) ?_ (ansE_one _) ?_
       · rfl
       · rfl
       · rfl
       · rfl
       · rfl
       intro wz hwz
       have QZ : Hid (CbB wz (w.heap.size + 1) 40 (ansE ((revokeH x.2.A hh ot).1 : Int))) := Lib.hid (by rw [hwz]; exact CbB.row Q1.out _)
       have FZ : Hid (Fr w2 wz (fun k => k = (w.heap.size + 1))) := Lib.hid (by rw [hwz]; exact fr_rowX _ _ _)
       clear hwz))
  refine bodyPost_ret (ans_results Tryz.results48 _ _ (w.heap.size + 1) (ansE ((revokeH x.2.A hh ot).1 : Int)) rfl QZ.out rfl) rfl ?_
  exact DoR.flat ((revokeH x.2.A hh ot).1 : Int) 0 0 0 ⟨m, _, M1.out.stp (Stp.box FZ.out G1.out) fun i e => by have := M1.out.pos; injection e with e; omega⟩ (S1.out.fresh FZ.out (Nat.le_succ _))
end
end Go.Proofs.YtnnjmelibmiimaaGreat
