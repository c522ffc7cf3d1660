/-
  IDEAL: the calls of handles, refused; get: the walks.
-/
import Derived.Test.YtnnjmelibmiimaaGreatBdj
namespace Go.Proofs.YtnnjmelibmiimaaGreat
open Go.RowKit
set_option linter.unusedVariables false
set_option linter.unusedSimpArgs false

section
variable {w : World} {O : Tg} {s blocks m : Nat} {T : List TnP} {bs : List (Nat × TnP)} {c : CallP}
set_option maxRecDepth 100000 in
set_option maxHeartbeats 1000000 in
theorem id_give_none (h : IdM w O s blocks T m bs) (hc : c.Ok) (hf : fnd bs (c.hd / 4294967296) = none) :
    Calls Tryz.prog 47 #[.pointer (some ⟨s, 0, none⟩), .agg c.cs] w (DoR s blocks w O (errA 7) T) := by
  have ha : Below w.heap.size w ((w.alloc (.cells #[.int .i64 c.kind, .int .u32 (c.ten : Int), .slice c.sec.A c.sec.n c.sec.c, .int .i64 c.quota, .int .i64 c.n, .int .u64 (c.hd : Int), .int .u64 (c.oth : Int), .int .u64 (c.sn : Int), .int .u8 (c.rt : Int), .slice c.oA c.oN c.oC, .slice c.key.A c.key.n c.key.c, .slice c.frm.A c.frm.n c.frm.c, .slice c.upto.A c.upto.n c.upto.c, .bool c.back] 36)).alloc (.cells #[.int .i64 0, .int .u64 0, .int .u64 0, .slice none 0 0, .slice none 0 0, .int .i64 0, .slice none 0 0] 40)) := ((Below.refl _ _).alloc (Nat.le_refl _) _).alloc (by simp) _
  have hcb : CbB ((w.alloc (.cells #[.int .i64 c.kind, .int .u32 (c.ten : Int), .slice c.sec.A c.sec.n c.sec.c, .int .i64 c.quota, .int .i64 c.n, .int .u64 (c.hd : Int), .int .u64 (c.oth : Int), .int .u64 (c.sn : Int), .int .u8 (c.rt : Int), .slice c.oA c.oN c.oC, .slice c.key.A c.key.n c.key.c, .slice c.frm.A c.frm.n c.frm.c, .slice c.upto.A c.upto.n c.upto.c, .bool c.back] 36)).alloc (.cells #[.int .i64 0, .int .u64 0, .int .u64 0, .slice none 0 0, .slice none 0 0, .int .i64 0, .slice none 0 0] 40)) w.heap.size 36 c.cs := (CbB.new w _ _).ab ((Below.refl _ _).alloc (Nat.le_refl _) _)
  have hqb : CbB ((w.alloc (.cells #[.int .i64 c.kind, .int .u32 (c.ten : Int), .slice c.sec.A c.sec.n c.sec.c, .int .i64 c.quota, .int .i64 c.n, .int .u64 (c.hd : Int), .int .u64 (c.oth : Int), .int .u64 (c.sn : Int), .int .u8 (c.rt : Int), .slice c.oA c.oN c.oC, .slice c.key.A c.key.n c.key.c, .slice c.frm.A c.frm.n c.frm.c, .slice c.upto.A c.upto.n c.upto.c, .bool c.back] 36)).alloc (.cells #[.int .i64 0, .int .u64 0, .int .u64 0, .slice none 0 0, .slice none 0 0, .int .i64 0, .slice none 0 0] 40)) (w.heap.size + 1) 40 (ansE 0) := CbB.newI (by simp)
  unfold CallP.cs at hcb ⊢
  go_enter Tryz.func47, Tryz.ntmps47
  go_upto_region 1 with (fail)
  obtain ⟨w0, hw0⟩ : ∃ w0, ((w.alloc (.cells #[.int .i64 c.kind, .int .u32 (c.ten : Int), .slice c.sec.A c.sec.n c.sec.c, .int .i64 c.quota, .int .i64 c.n, .int .u64 (c.hd : Int), .int .u64 (c.oth : Int), .int .u64 (c.sn : Int), .int .u8 (c.rt : Int), .slice c.oA c.oN c.oC, .slice c.key.A c.key.n c.key.c, .slice c.frm.A c.frm.n c.frm.c, .slice c.upto.A c.upto.n c.upto.c, .bool c.back] 36)).alloc (.cells #[.int .i64 0, .int .u64 0, .int .u64 0, .slice none 0 0, .slice none 0 0, .int .i64 0, .slice none 0 0] 40)) = w0 := ⟨_, rfl⟩
  rw [hw0] at ha hcb hqb ⊢
  clear hw0
  have c0 := (hcb).cell (k := 0) rfl
  have c1 := (hcb).cell (k := 1) rfl
  have c2 := (hcb).cell (k := 2) rfl
  have c3 := (hcb).cell (k := 3) rfl
  have c4 := (hcb).cell (k := 4) rfl
  have c5 := (hcb).cell (k := 5) rfl
  have c6 := (hcb).cell (k := 6) rfl
  have c7 := (hcb).cell (k := 7) rfl
  have c8 := (hcb).cell (k := 8) rfl
  have c9 := (hcb).cell (k := 9) rfl
  have c10 := (hcb).cell (k := 10) rfl
  have c11 := (hcb).cell (k := 11) rfl
  have c12 := (hcb).cell (k := 12) rfl
  have c13 := (hcb).cell (k := 13) rfl
  have HA := Lib.hid ha
  have HQ := Lib.hid hqb
  have HB := Lib.hid hcb
  have M0 := h.stp (Stp.cut ha (fun _ => False)) fun _ h => h
  have HM := Lib.hid M0
  have HH := Lib.hid (holder_none 0 M0 hc hf)
  have HF := Lib.hid fun W => fails_any 7 W
  clear h ha hqb hcb hf hc M0
  go_wp2_with fail
  refine HH.out.mono ?_
  rintro e w9 ⟨rfl, hb9⟩
  have B9 := Lib.hid hb9
  clear hb9 HH
  go_wp2_with fail
  refine (HF.out _).mono ?_
  rintro e w1 ⟨rfl, hb⟩
  have B1 : Hid (Below w0.heap.size w0 w1) := Lib.hid (below_tr B9.out hb B9.out.size)
  have Q1 := Lib.hid (HQ.out.ab B1.out)
  have M1 := Lib.hid (HM.out.stp (Stp.of B1.out (fun _ => False) fun _ _ => rfl) fun _ h => h)
  have S1 : Hid (Stp (fun τ => τ.1 = s) w O w1 (cutTg O w.heap.size)) := Lib.hid ((Stp.cut HA.out _).ab B1.out)
  clear hb HQ HM B1
  go_wp2_with (first
    | (with_reducible refine wpList_storeC (o := ⟨none, .store _ (.tmp 4) (.tmp 19), _, _, _, _⟩) ?_ 40 (.tmp 4) (.tmp 19) ?_ (w.heap.size + 1) ?_ (ansE 7) ?_ (cs := ansE 0) (t := 40) Q1.out (szAnsE _) ?_ (ansE_one _) ?_
       · rfl
       · rfl
       · rfl
       · rfl
       · rfl
       intro wz hwz
       have QZ : Hid (CbB wz (w.heap.size + 1) 40 (ansE 7)) := Lib.hid (by rw [hwz]; exact CbB.row Q1.out _)
       have FZ : Hid (Fr w1 wz (fun k => k = (w.heap.size + 1))) := Lib.hid (by rw [hwz]; exact fr_rowX _ _ _)
       clear hwz))
  refine bodyPost_ret (ans_results Tryz.results47 _ _ (w.heap.size + 1) (ansE 7) rfl QZ.out rfl) rfl ?_
  exact DoR.flat 7 0 0 0 ⟨m, bs, M1.out.stp (Stp.box FZ.out (cutTg_at (Nat.le_succ _))) fun i e => by have := M1.out.pos; injection e with e; omega⟩ (S1.out.fresh FZ.out (Nat.le_succ _))
set_option maxRecDepth 100000 in
set_option maxHeartbeats 1000000 in
theorem id_give_deny (x : Nat × TnP) (h : IdM w O s blocks T m bs) (hc : c.Ok) (hf : fnd bs (c.hd / 4294967296) = some x) (er : Nat) (hk : checkH x.2.A (c.hd % 4294967296) 0 = er) (he : 0 < er) :
    Calls Tryz.prog 47 #[.pointer (some ⟨s, 0, none⟩), .agg c.cs] w (DoR s blocks w O (errA er) T) := by
  obtain ⟨cb, mo, sm, nb, es, ht⟩ := h.all x (fnd_mem hf).1
  have ha : Below w.heap.size w ((w.alloc (.cells #[.int .i64 c.kind, .int .u32 (c.ten : Int), .slice c.sec.A c.sec.n c.sec.c, .int .i64 c.quota, .int .i64 c.n, .int .u64 (c.hd : Int), .int .u64 (c.oth : Int), .int .u64 (c.sn : Int), .int .u8 (c.rt : Int), .slice c.oA c.oN c.oC, .slice c.key.A c.key.n c.key.c, .slice c.frm.A c.frm.n c.frm.c, .slice c.upto.A c.upto.n c.upto.c, .bool c.back] 36)).alloc (.cells #[.int .i64 0, .int .u64 0, .int .u64 0, .slice none 0 0, .slice none 0 0, .int .i64 0, .slice none 0 0] 40)) := ((Below.refl _ _).alloc (Nat.le_refl _) _).alloc (by simp) _
  have hcb : CbB ((w.alloc (.cells #[.int .i64 c.kind, .int .u32 (c.ten : Int), .slice c.sec.A c.sec.n c.sec.c, .int .i64 c.quota, .int .i64 c.n, .int .u64 (c.hd : Int), .int .u64 (c.oth : Int), .int .u64 (c.sn : Int), .int .u8 (c.rt : Int), .slice c.oA c.oN c.oC, .slice c.key.A c.key.n c.key.c, .slice c.frm.A c.frm.n c.frm.c, .slice c.upto.A c.upto.n c.upto.c, .bool c.back] 36)).alloc (.cells #[.int .i64 0, .int .u64 0, .int .u64 0, .slice none 0 0, .slice none 0 0, .int .i64 0, .slice none 0 0] 40)) w.heap.size 36 c.cs := (CbB.new w _ _).ab ((Below.refl _ _).alloc (Nat.le_refl _) _)
  have hqb : CbB ((w.alloc (.cells #[.int .i64 c.kind, .int .u32 (c.ten : Int), .slice c.sec.A c.sec.n c.sec.c, .int .i64 c.quota, .int .i64 c.n, .int .u64 (c.hd : Int), .int .u64 (c.oth : Int), .int .u64 (c.sn : Int), .int .u8 (c.rt : Int), .slice c.oA c.oN c.oC, .slice c.key.A c.key.n c.key.c, .slice c.frm.A c.frm.n c.frm.c, .slice c.upto.A c.upto.n c.upto.c, .bool c.back] 36)).alloc (.cells #[.int .i64 0, .int .u64 0, .int .u64 0, .slice none 0 0, .slice none 0 0, .int .i64 0, .slice none 0 0] 40)) (w.heap.size + 1) 40 (ansE 0) := CbB.newI (by simp)
  unfold CallP.cs at hcb ⊢
  go_enter Tryz.func47, Tryz.ntmps47
  go_upto_region 1 with (fail)
  obtain ⟨w0, hw0⟩ : ∃ w0, ((w.alloc (.cells #[.int .i64 c.kind, .int .u32 (c.ten : Int), .slice c.sec.A c.sec.n c.sec.c, .int .i64 c.quota, .int .i64 c.n, .int .u64 (c.hd : Int), .int .u64 (c.oth : Int), .int .u64 (c.sn : Int), .int .u8 (c.rt : Int), .slice c.oA c.oN c.oC, .slice c.key.A c.key.n c.key.c, .slice c.frm.A c.frm.n c.frm.c, .slice c.upto.A c.upto.n c.upto.c, .bool c.back] 36)).alloc (.cells #[.int .i64 0, .int .u64 0, .int .u64 0, .slice none 0 0, .slice none 0 0, .int .i64 0, .slice none 0 0] 40)) = w0 := ⟨_, rfl⟩
  rw [hw0] at ha hcb hqb ⊢
  clear hw0
  have c0 := (hcb).cell (k := 0) rfl
  have c1 := (hcb).cell (k := 1) rfl
  have c2 := (hcb).cell (k := 2) rfl
  have c3 := (hcb).cell (k := 3) rfl
  have c4 := (hcb).cell (k := 4) rfl
  have c5 := (hcb).cell (k := 5) rfl
  have c6 := (hcb).cell (k := 6) rfl
  have c7 := (hcb).cell (k := 7) rfl
  have c8 := (hcb).cell (k := 8) rfl
  have c9 := (hcb).cell (k := 9) rfl
  have c10 := (hcb).cell (k := 10) rfl
  have c11 := (hcb).cell (k := 11) rfl
  have c12 := (hcb).cell (k := 12) rfl
  have c13 := (hcb).cell (k := 13) rfl
  have HA := Lib.hid ha
  have HQ := Lib.hid hqb
  have HB := Lib.hid hcb
  have M0 := h.stp (Stp.cut ha (fun _ => False)) fun _ h => h
  have HM := Lib.hid M0
  have HH := Lib.hid (holder_some 0 x cb mo sm nb es M0 hc hf (ht.stp (Stp.cut ha (fun _ => False)) fun h => h))
  rw [hk] at HH
  have e0 : ((er : Int) != 0) = true := by simp; omega
  have e1 : ¬ er = 0 := by omega
  have HF := Lib.hid fun W => fails_any (er : Int) W
  clear h ha hqb hcb hf hc M0 ht hk he
  go_wp2_with fail
  refine HH.out.mono ?_
  rintro e w9 ⟨rfl, hb9⟩
  have B9 := Lib.hid hb9
  clear hb9 HH
  go_wp2_with fail
  refine (HF.out _).mono ?_
  rintro e w1 ⟨rfl, hb⟩
  have B1 : Hid (Below w0.heap.size w0 w1) := Lib.hid (below_tr B9.out hb B9.out.size)
  have Q1 := Lib.hid (HQ.out.ab B1.out)
  have M1 := Lib.hid (HM.out.stp (Stp.of B1.out (fun _ => False) fun _ _ => rfl) fun _ h => h)
  have S1 : Hid (Stp (fun τ => τ.1 = s) w O w1 (cutTg O w.heap.size)) := Lib.hid ((Stp.cut HA.out _).ab B1.out)
  clear hb HQ HM B1
  go_wp2_with (first
    | (with_reducible refine wpList_storeC (o := ⟨none, .store _ (.tmp 4) (.tmp 19), _, _, _, _⟩) ?_ 40 (.tmp 4) (.tmp 19) ?_ (w.heap.size + 1) ?_ (ansE (er : Int)) ?_ (cs := ansE 0) (t := 40) Q1.out (szAnsE _) ?_ (ansE_one _) ?_
       · rfl
       · rfl
       · rfl
       · rfl
       · rfl
       intro wz hwz
       have QZ : Hid (CbB wz (w.heap.size + 1) 40 (ansE (er : Int))) := Lib.hid (by rw [hwz]; exact CbB.row Q1.out _)
       have FZ : Hid (Fr w1 wz (fun k => k = (w.heap.size + 1))) := Lib.hid (by rw [hwz]; exact fr_rowX _ _ _)
       clear hwz))
  refine bodyPost_ret (ans_results Tryz.results47 _ _ (w.heap.size + 1) (ansE (er : Int)) rfl QZ.out rfl) rfl ?_
  exact DoR.flat (er : Int) 0 0 0 ⟨m, bs, M1.out.stp (Stp.box FZ.out (cutTg_at (Nat.le_succ _))) fun i e => by have := M1.out.pos; injection e with e; omega⟩ (S1.out.fresh FZ.out (Nat.le_succ _))
set_option maxRecDepth 100000 in
set_option maxHeartbeats 1000000 in
theorem id_revoke_none (h : IdM w O s blocks T m bs) (hc : c.Ok) (hf : fnd bs (c.hd / 4294967296) = none) :
    Calls Tryz.prog 48 #[.pointer (some ⟨s, 0, none⟩), .agg c.cs] w (DoR s blocks w O (errA 7) T) := by
  have ha : Below w.heap.size w ((w.alloc (.cells #[.int .i64 c.kind, .int .u32 (c.ten : Int), .slice c.sec.A c.sec.n c.sec.c, .int .i64 c.quota, .int .i64 c.n, .int .u64 (c.hd : Int), .int .u64 (c.oth : Int), .int .u64 (c.sn : Int), .int .u8 (c.rt : Int), .slice c.oA c.oN c.oC, .slice c.key.A c.key.n c.key.c, .slice c.frm.A c.frm.n c.frm.c, .slice c.upto.A c.upto.n c.upto.c, .bool c.back] 36)).alloc (.cells #[.int .i64 0, .int .u64 0, .int .u64 0, .slice none 0 0, .slice none 0 0, .int .i64 0, .slice none 0 0] 40)) := ((Below.refl _ _).alloc (Nat.le_refl _) _).alloc (by simp) _
  have hcb : CbB ((w.alloc (.cells #[.int .i64 c.kind, .int .u32 (c.ten : Int), .slice c.sec.A c.sec.n c.sec.c, .int .i64 c.quota, .int .i64 c.n, .int .u64 (c.hd : Int), .int .u64 (c.oth : Int), .int .u64 (c.sn : Int), .int .u8 (c.rt : Int), .slice c.oA c.oN c.oC, .slice c.key.A c.key.n c.key.c, .slice c.frm.A c.frm.n c.frm.c, .slice c.upto.A c.upto.n c.upto.c, .bool c.back] 36)).alloc (.cells #[.int .i64 0, .int .u64 0, .int .u64 0, .slice none 0 0, .slice none 0 0, .int .i64 0, .slice none 0 0] 40)) w.heap.size 36 c.cs := (CbB.new w _ _).ab ((Below.refl _ _).alloc (Nat.le_refl _) _)
  have hqb : CbB ((w.alloc (.cells #[.int .i64 c.kind, .int .u32 (c.ten : Int), .slice c.sec.A c.sec.n c.sec.c, .int .i64 c.quota, .int .i64 c.n, .int .u64 (c.hd : Int), .int .u64 (c.oth : Int), .int .u64 (c.sn : Int), .int .u8 (c.rt : Int), .slice c.oA c.oN c.oC, .slice c.key.A c.key.n c.key.c, .slice c.frm.A c.frm.n c.frm.c, .slice c.upto.A c.upto.n c.upto.c, .bool c.back] 36)).alloc (.cells #[.int .i64 0, .int .u64 0, .int .u64 0, .slice none 0 0, .slice none 0 0, .int .i64 0, .slice none 0 0] 40)) (w.heap.size + 1) 40 (ansE 0) := CbB.newI (by simp)
  unfold CallP.cs at hcb ⊢
  go_enter Tryz.func48, Tryz.ntmps48
  go_upto_region 1 with (fail)
  obtain ⟨w0, hw0⟩ : ∃ w0, ((w.alloc (.cells #[.int .i64 c.kind, .int .u32 (c.ten : Int), .slice c.sec.A c.sec.n c.sec.c, .int .i64 c.quota, .int .i64 c.n, .int .u64 (c.hd : Int), .int .u64 (c.oth : Int), .int .u64 (c.sn : Int), .int .u8 (c.rt : Int), .slice c.oA c.oN c.oC, .slice c.key.A c.key.n c.key.c, .slice c.frm.A c.frm.n c.frm.c, .slice c.upto.A c.upto.n c.upto.c, .bool c.back] 36)).alloc (.cells #[.int .i64 0, .int .u64 0, .int .u64 0, .slice none 0 0, .slice none 0 0, .int .i64 0, .slice none 0 0] 40)) = w0 := ⟨_, rfl⟩
  rw [hw0] at ha hcb hqb ⊢
  clear hw0
  have c0 := (hcb).cell (k := 0) rfl
  have c1 := (hcb).cell (k := 1) rfl
  have c2 := (hcb).cell (k := 2) rfl
  have c3 := (hcb).cell (k := 3) rfl
  have c4 := (hcb).cell (k := 4) rfl
  have c5 := (hcb).cell (k := 5) rfl
  have c6 := (hcb).cell (k := 6) rfl
  have c7 := (hcb).cell (k := 7) rfl
  have c8 := (hcb).cell (k := 8) rfl
  have c9 := (hcb).cell (k := 9) rfl
  have c10 := (hcb).cell (k := 10) rfl
  have c11 := (hcb).cell (k := 11) rfl
  have c12 := (hcb).cell (k := 12) rfl
  have c13 := (hcb).cell (k := 13) rfl
  have HA := Lib.hid ha
  have HQ := Lib.hid hqb
  have HB := Lib.hid hcb
  have M0 := h.stp (Stp.cut ha (fun _ => False)) fun _ h => h
  have HM := Lib.hid M0
  have HH := Lib.hid (holder_none 0 M0 hc hf)
  have HF := Lib.hid fun W => fails_any 7 W
  clear h ha hqb hcb hf hc M0
  go_wp2_with fail
  refine HH.out.mono ?_
  rintro e w9 ⟨rfl, hb9⟩
  have B9 := Lib.hid hb9
  clear hb9 HH
  go_wp2_with fail
  refine (HF.out _).mono ?_
  rintro e w1 ⟨rfl, hb⟩
  have B1 : Hid (Below w0.heap.size w0 w1) := Lib.hid (below_tr B9.out hb B9.out.size)
  have Q1 := Lib.hid (HQ.out.ab B1.out)
  have M1 := Lib.hid (HM.out.stp (Stp.of B1.out (fun _ => False) fun _ _ => rfl) fun _ h => h)
  have S1 : Hid (Stp (fun τ => τ.1 = s) w O w1 (cutTg O w.heap.size)) := Lib.hid ((Stp.cut HA.out _).ab B1.out)
  clear hb HQ HM B1
  go_wp2_with (first
    | (with_reducible refine wpList_storeC (o := ⟨none, .store _ (.tmp 4) (.tmp 19), _, _, _, _⟩) ?_ 40 (.tmp 4) (.tmp 19) ?_ (w.heap.size + 1) ?_ (ansE 7) ?_ (cs := ansE 0) (t := 40) Q1.out (szAnsE _) ?_ (ansE_one _) ?_
       · rfl
       · rfl
       · rfl
       · rfl
       · rfl
       intro wz hwz
       have QZ : Hid (CbB wz (w.heap.size + 1) 40 (ansE 7)) := Lib.hid (by rw [hwz]; exact CbB.row Q1.out _)
       have FZ : Hid (Fr w1 wz (fun k => k = (w.heap.size + 1))) := Lib.hid (by rw [hwz]; exact fr_rowX _ _ _)
       clear hwz))
  refine bodyPost_ret (ans_results Tryz.results48 _ _ (w.heap.size + 1) (ansE 7) rfl QZ.out rfl) rfl ?_
  exact DoR.flat 7 0 0 0 ⟨m, bs, M1.out.stp (Stp.box FZ.out (cutTg_at (Nat.le_succ _))) fun i e => by have := M1.out.pos; injection e with e; omega⟩ (S1.out.fresh FZ.out (Nat.le_succ _))
set_option maxRecDepth 100000 in
set_option maxHeartbeats 1000000 in
theorem id_revoke_deny (x : Nat × TnP) (h : IdM w O s blocks T m bs) (hc : c.Ok) (hf : fnd bs (c.hd / 4294967296) = some x) (er : Nat) (hk : checkH x.2.A (c.hd % 4294967296) 0 = er) (he : 0 < er) :
    Calls Tryz.prog 48 #[.pointer (some ⟨s, 0, none⟩), .agg c.cs] w (DoR s blocks w O (errA er) T) := by
  obtain ⟨cb, mo, sm, nb, es, ht⟩ := h.all x (fnd_mem hf).1
  have ha : Below w.heap.size w ((w.alloc (.cells #[.int .i64 c.kind, .int .u32 (c.ten : Int), .slice c.sec.A c.sec.n c.sec.c, .int .i64 c.quota, .int .i64 c.n, .int .u64 (c.hd : Int), .int .u64 (c.oth : Int), .int .u64 (c.sn : Int), .int .u8 (c.rt : Int), .slice c.oA c.oN c.oC, .slice c.key.A c.key.n c.key.c, .slice c.frm.A c.frm.n c.frm.c, .slice c.upto.A c.upto.n c.upto.c, .bool c.back] 36)).alloc (.cells #[.int .i64 0, .int .u64 0, .int .u64 0, .slice none 0 0, .slice none 0 0, .int .i64 0, .slice none 0 0] 40)) := ((Below.refl _ _).alloc (Nat.le_refl _) _).alloc (by simp) _
  have hcb : CbB ((w.alloc (.cells #[.int .i64 c.kind, .int .u32 (c.ten : Int), .slice c.sec.A c.sec.n c.sec.c, .int .i64 c.quota, .int .i64 c.n, .int .u64 (c.hd : Int), .int .u64 (c.oth : Int), .int .u64 (c.sn : Int), .int .u8 (c.rt : Int), .slice c.oA c.oN c.oC, .slice c.key.A c.key.n c.key.c, .slice c.frm.A c.frm.n c.frm.c, .slice c.upto.A c.upto.n c.upto.c, .bool c.back] 36)).alloc (.cells #[.int .i64 0, .int .u64 0, .int .u64 0, .slice none 0 0, .slice none 0 0, .int .i64 0, .slice none 0 0] 40)) w.heap.size 36 c.cs := (CbB.new w _ _).ab ((Below.refl _ _).alloc (Nat.le_refl _) _)
  have hqb : CbB ((w.alloc (.cells #[.int .i64 c.kind, .int .u32 (c.ten : Int), .slice c.sec.A c.sec.n c.sec.c, .int .i64 c.quota, .int .i64 c.n, .int .u64 (c.hd : Int), .int .u64 (c.oth : Int), .int .u64 (c.sn : Int), .int .u8 (c.rt : Int), .slice c.oA c.oN c.oC, .slice c.key.A c.key.n c.key.c, .slice c.frm.A c.frm.n c.frm.c, .slice c.upto.A c.upto.n c.upto.c, .bool c.back] 36)).alloc (.cells #[.int .i64 0, .int .u64 0, .int .u64 0, .slice none 0 0, .slice none 0 0, .int .i64 0, .slice none 0 0] 40)) (w.heap.size + 1) 40 (ansE 0) := CbB.newI (by simp)
  unfold CallP.cs at hcb ⊢
  go_enter Tryz.func48, Tryz.ntmps48
  go_upto_region 1 with (fail)
  obtain ⟨w0, hw0⟩ : ∃ w0, ((w.alloc (.cells #[.int .i64 c.kind, .int .u32 (c.ten : Int), .slice c.sec.A c.sec.n c.sec.c, .int .i64 c.quota, .int .i64 c.n, .int .u64 (c.hd : Int), .int .u64 (c.oth : Int), .int .u64 (c.sn : Int), .int .u8 (c.rt : Int), .slice c.oA c.oN c.oC, .slice c.key.A c.key.n c.key.c, .slice c.frm.A c.frm.n c.frm.c, .slice c.upto.A c.upto.n c.upto.c, .bool c.back] 36)).alloc (.cells #[.int .i64 0, .int .u64 0, .int .u64 0, .slice none 0 0, .slice none 0 0, .int .i64 0, .slice none 0 0] 40)) = w0 := ⟨_, rfl⟩
  rw [hw0] at ha hcb hqb ⊢
  clear hw0
  have c0 := (hcb).cell (k := 0) rfl
  have c1 := (hcb).cell (k := 1) rfl
  have c2 := (hcb).cell (k := 2) rfl
  have c3 := (hcb).cell (k := 3) rfl
  have c4 := (hcb).cell (k := 4) rfl
  have c5 := (hcb).cell (k := 5) rfl
  have c6 := (hcb).cell (k := 6) rfl
  have c7 := (hcb).cell (k := 7) rfl
  have c8 := (hcb).cell (k := 8) rfl
  have c9 := (hcb).cell (k := 9) rfl
  have c10 := (hcb).cell (k := 10) rfl
  have c11 := (hcb).cell (k := 11) rfl
  have c12 := (hcb).cell (k := 12) rfl
  have c13 := (hcb).cell (k := 13) rfl
  have HA := Lib.hid ha
  have HQ := Lib.hid hqb
  have HB := Lib.hid hcb
  have M0 := h.stp (Stp.cut ha (fun _ => False)) fun _ h => h
  have HM := Lib.hid M0
  have HH := Lib.hid (holder_some 0 x cb mo sm nb es M0 hc hf (ht.stp (Stp.cut ha (fun _ => False)) fun h => h))
  rw [hk] at HH
  have e0 : ((er : Int) != 0) = true := by simp; omega
  have e1 : ¬ er = 0 := by omega
  have HF := Lib.hid fun W => fails_any (er : Int) W
  clear h ha hqb hcb hf hc M0 ht hk he
  go_wp2_with fail
  refine HH.out.mono ?_
  rintro e w9 ⟨rfl, hb9⟩
  have B9 := Lib.hid hb9
  clear hb9 HH
  go_wp2_with fail
  refine (HF.out _).mono ?_
  rintro e w1 ⟨rfl, hb⟩
  have B1 : Hid (Below w0.heap.size w0 w1) := Lib.hid (below_tr B9.out hb B9.out.size)
  have Q1 := Lib.hid (HQ.out.ab B1.out)
  have M1 := Lib.hid (HM.out.stp (Stp.of B1.out (fun _ => False) fun _ _ => rfl) fun _ h => h)
  have S1 : Hid (Stp (fun τ => τ.1 = s) w O w1 (cutTg O w.heap.size)) := Lib.hid ((Stp.cut HA.out _).ab B1.out)
  clear hb HQ HM B1
  go_wp2_with (first
    | (with_reducible refine wpList_storeC (o := ⟨none, .store _ (.tmp 4) (.tmp 19), _, _, _, _⟩) ?_ 40 (.tmp 4) (.tmp 19) ?_ (w.heap.size + 1) ?_ (ansE (er : Int)) ?_ (cs := ansE 0) (t := 40) Q1.out (szAnsE _) ?_ (ansE_one _) ?_
       · rfl
       · rfl
       · rfl
       · rfl
       · rfl
       intro wz hwz
       have QZ : Hid (CbB wz (w.heap.size + 1) 40 (ansE (er : Int))) := Lib.hid (by rw [hwz]; exact CbB.row Q1.out _)
       have FZ : Hid (Fr w1 wz (fun k => k = (w.heap.size + 1))) := Lib.hid (by rw [hwz]; exact fr_rowX _ _ _)
       clear hwz))
  refine bodyPost_ret (ans_results Tryz.results48 _ _ (w.heap.size + 1) (ansE (er : Int)) rfl QZ.out rfl) rfl ?_
  exact DoR.flat (er : Int) 0 0 0 ⟨m, bs, M1.out.stp (Stp.box FZ.out (cutTg_at (Nat.le_succ _))) fun i e => by have := M1.out.pos; injection e with e; omega⟩ (S1.out.fresh FZ.out (Nat.le_succ _))
set_option maxRecDepth 100000 in
set_option maxHeartbeats 1000000 in
theorem id_batch_none (h : IdM w O s blocks T m bs) (hc : c.Ok) (hf : fnd bs (c.hd / 4294967296) = none) :
    Calls Tryz.prog 49 #[.pointer (some ⟨s, 0, none⟩), .agg c.cs] w (DoR s blocks w O (errA 7) T) := by
  have ha : Below w.heap.size w ((w.alloc (.cells #[.int .i64 c.kind, .int .u32 (c.ten : Int), .slice c.sec.A c.sec.n c.sec.c, .int .i64 c.quota, .int .i64 c.n, .int .u64 (c.hd : Int), .int .u64 (c.oth : Int), .int .u64 (c.sn : Int), .int .u8 (c.rt : Int), .slice c.oA c.oN c.oC, .slice c.key.A c.key.n c.key.c, .slice c.frm.A c.frm.n c.frm.c, .slice c.upto.A c.upto.n c.upto.c, .bool c.back] 36)).alloc (.cells #[.int .i64 0, .int .u64 0, .int .u64 0, .slice none 0 0, .slice none 0 0, .int .i64 0, .slice none 0 0] 40)) := ((Below.refl _ _).alloc (Nat.le_refl _) _).alloc (by simp) _
  have hcb : CbB ((w.alloc (.cells #[.int .i64 c.kind, .int .u32 (c.ten : Int), .slice c.sec.A c.sec.n c.sec.c, .int .i64 c.quota, .int .i64 c.n, .int .u64 (c.hd : Int), .int .u64 (c.oth : Int), .int .u64 (c.sn : Int), .int .u8 (c.rt : Int), .slice c.oA c.oN c.oC, .slice c.key.A c.key.n c.key.c, .slice c.frm.A c.frm.n c.frm.c, .slice c.upto.A c.upto.n c.upto.c, .bool c.back] 36)).alloc (.cells #[.int .i64 0, .int .u64 0, .int .u64 0, .slice none 0 0, .slice none 0 0, .int .i64 0, .slice none 0 0] 40)) w.heap.size 36 c.cs := (CbB.new w _ _).ab ((Below.refl _ _).alloc (Nat.le_refl _) _)
  have hqb : CbB ((w.alloc (.cells #[.int .i64 c.kind, .int .u32 (c.ten : Int), .slice c.sec.A c.sec.n c.sec.c, .int .i64 c.quota, .int .i64 c.n, .int .u64 (c.hd : Int), .int .u64 (c.oth : Int), .int .u64 (c.sn : Int), .int .u8 (c.rt : Int), .slice c.oA c.oN c.oC, .slice c.key.A c.key.n c.key.c, .slice c.frm.A c.frm.n c.frm.c, .slice c.upto.A c.upto.n c.upto.c, .bool c.back] 36)).alloc (.cells #[.int .i64 0, .int .u64 0, .int .u64 0, .slice none 0 0, .slice none 0 0, .int .i64 0, .slice none 0 0] 40)) (w.heap.size + 1) 40 (ansE 0) := CbB.newI (by simp)
  unfold CallP.cs at hcb ⊢
  go_enter Tryz.func49, Tryz.ntmps49
  go_upto_region 1 with (fail)
  obtain ⟨w0, hw0⟩ : ∃ w0, ((w.alloc (.cells #[.int .i64 c.kind, .int .u32 (c.ten : Int), .slice c.sec.A c.sec.n c.sec.c, .int .i64 c.quota, .int .i64 c.n, .int .u64 (c.hd : Int), .int .u64 (c.oth : Int), .int .u64 (c.sn : Int), .int .u8 (c.rt : Int), .slice c.oA c.oN c.oC, .slice c.key.A c.key.n c.key.c, .slice c.frm.A c.frm.n c.frm.c, .slice c.upto.A c.upto.n c.upto.c, .bool c.back] 36)).alloc (.cells #[.int .i64 0, .int .u64 0, .int .u64 0, .slice none 0 0, .slice none 0 0, .int .i64 0, .slice none 0 0] 40)) = w0 := ⟨_, rfl⟩
  rw [hw0] at ha hcb hqb ⊢
  clear hw0
  have c0 := (hcb).cell (k := 0) rfl
  have c1 := (hcb).cell (k := 1) rfl
  have c2 := (hcb).cell (k := 2) rfl
  have c3 := (hcb).cell (k := 3) rfl
  have c4 := (hcb).cell (k := 4) rfl
  have c5 := (hcb).cell (k := 5) rfl
  have c6 := (hcb).cell (k := 6) rfl
  have c7 := (hcb).cell (k := 7) rfl
  have c8 := (hcb).cell (k := 8) rfl
  have c9 := (hcb).cell (k := 9) rfl
  have c10 := (hcb).cell (k := 10) rfl
  have c11 := (hcb).cell (k := 11) rfl
  have c12 := (hcb).cell (k := 12) rfl
  have c13 := (hcb).cell (k := 13) rfl
  have HA := Lib.hid ha
  have HQ := Lib.hid hqb
  have HB := Lib.hid hcb
  have M0 := h.stp (Stp.cut ha (fun _ => False)) fun _ h => h
  have HM := Lib.hid M0
  have HH := Lib.hid (holder_none 2 M0 hc hf)
  have HF := Lib.hid fun W => fails_any 7 W
  clear h ha hqb hcb hf hc M0
  go_wp2_with fail
  refine HH.out.mono ?_
  rintro e w9 ⟨rfl, hb9⟩
  have B9 := Lib.hid hb9
  clear hb9 HH
  go_wp2_with fail
  refine (HF.out _).mono ?_
  rintro e w1 ⟨rfl, hb⟩
  have B1 : Hid (Below w0.heap.size w0 w1) := Lib.hid (below_tr B9.out hb B9.out.size)
  have Q1 := Lib.hid (HQ.out.ab B1.out)
  have M1 := Lib.hid (HM.out.stp (Stp.of B1.out (fun _ => False) fun _ _ => rfl) fun _ h => h)
  have S1 : Hid (Stp (fun τ => τ.1 = s) w O w1 (cutTg O w.heap.size)) := Lib.hid ((Stp.cut HA.out _).ab B1.out)
  clear hb HQ HM B1
  go_wp2_with (first
    | (with_reducible refine wpList_storeC (o := ⟨none, .store _ (.tmp 4) (.tmp 21), _, _, _, _⟩) ?_ 40 (.tmp 4) (.tmp 21) ?_ (w.heap.size + 1) ?_ (ansE 7) ?_ (cs := ansE 0) (t := 40) Q1.out (szAnsE _) ?_ (ansE_one _) ?_
       · rfl
       · rfl
       · rfl
       · rfl
       · rfl
       intro wz hwz
       have QZ : Hid (CbB wz (w.heap.size + 1) 40 (ansE 7)) := Lib.hid (by rw [hwz]; exact CbB.row Q1.out _)
       have FZ : Hid (Fr w1 wz (fun k => k = (w.heap.size + 1))) := Lib.hid (by rw [hwz]; exact fr_rowX _ _ _)
       clear hwz))
  refine bodyPost_ret (ans_results Tryz.results49 _ _ (w.heap.size + 1) (ansE 7) rfl QZ.out rfl) rfl ?_
  exact DoR.flat 7 0 0 0 ⟨m, bs, M1.out.stp (Stp.box FZ.out (cutTg_at (Nat.le_succ _))) fun i e => by have := M1.out.pos; injection e with e; omega⟩ (S1.out.fresh FZ.out (Nat.le_succ _))
set_option maxRecDepth 100000 in
set_option maxHeartbeats 1000000 in
theorem id_batch_deny (x : Nat × TnP) (h : IdM w O s blocks T m bs) (hc : c.Ok) (hf : fnd bs (c.hd / 4294967296) = some x) (er : Nat) (hk : checkH x.2.A (c.hd % 4294967296) 2 = er) (he : 0 < er) :
    Calls Tryz.prog 49 #[.pointer (some ⟨s, 0, none⟩), .agg c.cs] w (DoR s blocks w O (errA er) T) := by
  obtain ⟨cb, mo, sm, nb, es, ht⟩ := h.all x (fnd_mem hf).1
  have ha : Below w.heap.size w ((w.alloc (.cells #[.int .i64 c.kind, .int .u32 (c.ten : Int), .slice c.sec.A c.sec.n c.sec.c, .int .i64 c.quota, .int .i64 c.n, .int .u64 (c.hd : Int), .int .u64 (c.oth : Int), .int .u64 (c.sn : Int), .int .u8 (c.rt : Int), .slice c.oA c.oN c.oC, .slice c.key.A c.key.n c.key.c, .slice c.frm.A c.frm.n c.frm.c, .slice c.upto.A c.upto.n c.upto.c, .bool c.back] 36)).alloc (.cells #[.int .i64 0, .int .u64 0, .int .u64 0, .slice none 0 0, .slice none 0 0, .int .i64 0, .slice none 0 0] 40)) := ((Below.refl _ _).alloc (Nat.le_refl _) _).alloc (by simp) _
  have hcb : CbB ((w.alloc (.cells #[.int .i64 c.kind, .int .u32 (c.ten : Int), .slice c.sec.A c.sec.n c.sec.c, .int .i64 c.quota, .int .i64 c.n, .int .u64 (c.hd : Int), .int .u64 (c.oth : Int), .int .u64 (c.sn : Int), .int .u8 (c.rt : Int), .slice c.oA c.oN c.oC, .slice c.key.A c.key.n c.key.c, .slice c.frm.A c.frm.n c.frm.c, .slice c.upto.A c.upto.n c.upto.c, .bool c.back] 36)).alloc (.cells #[.int .i64 0, .int .u64 0, .int .u64 0, .slice none 0 0, .slice none 0 0, .int .i64 0, .slice none 0 0] 40)) w.heap.size 36 c.cs := (CbB.new w _ _).ab ((Below.refl _ _).alloc (Nat.le_refl _) _)
  have hqb : CbB ((w.alloc (.cells #[.int .i64 c.kind, .int .u32 (c.ten : Int), .slice c.sec.A c.sec.n c.sec.c, .int .i64 c.quota, .int .i64 c.n, .int .u64 (c.hd : Int), .int .u64 (c.oth : Int), .int .u64 (c.sn : Int), .int .u8 (c.rt : Int), .slice c.oA c.oN c.oC, .slice c.key.A c.key.n c.key.c, .slice c.frm.A c.frm.n c.frm.c, .slice c.upto.A c.upto.n c.upto.c, .bool c.back] 36)).alloc (.cells #[.int .i64 0, .int .u64 0, .int .u64 0, .slice none 0 0, .slice none 0 0, .int .i64 0, .slice none 0 0] 40)) (w.heap.size + 1) 40 (ansE 0) := CbB.newI (by simp)
  unfold CallP.cs at hcb ⊢
  go_enter Tryz.func49, Tryz.ntmps49
  go_upto_region 1 with (fail)
  obtain ⟨w0, hw0⟩ : ∃ w0, ((w.alloc (.cells #[.int .i64 c.kind, .int .u32 (c.ten : Int), .slice c.sec.A c.sec.n c.sec.c, .int .i64 c.quota, .int .i64 c.n, .int .u64 (c.hd : Int), .int .u64 (c.oth : Int), .int .u64 (c.sn : Int), .int .u8 (c.rt : Int), .slice c.oA c.oN c.oC, .slice c.key.A c.key.n c.key.c, .slice c.frm.A c.frm.n c.frm.c, .slice c.upto.A c.upto.n c.upto.c, .bool c.back] 36)).alloc (.cells #[.int .i64 0, .int .u64 0, .int .u64 0, .slice none 0 0, .slice none 0 0, .int .i64 0, .slice none 0 0] 40)) = w0 := ⟨_, rfl⟩
  rw [hw0] at ha hcb hqb ⊢
  clear hw0
  have c0 := (hcb).cell (k := 0) rfl
  have c1 := (hcb).cell (k := 1) rfl
  have c2 := (hcb).cell (k := 2) rfl
  have c3 := (hcb).cell (k := 3) rfl
  have c4 := (hcb).cell (k := 4) rfl
  have c5 := (hcb).cell (k := 5) rfl
  have c6 := (hcb).cell (k := 6) rfl
  have c7 := (hcb).cell (k := 7) rfl
  have c8 := (hcb).cell (k := 8) rfl
  have c9 := (hcb).cell (k := 9) rfl
  have c10 := (hcb).cell (k := 10) rfl
  have c11 := (hcb).cell (k := 11) rfl
  have c12 := (hcb).cell (k := 12) rfl
  have c13 := (hcb).cell (k := 13) rfl
  have HA := Lib.hid ha
  have HQ := Lib.hid hqb
  have HB := Lib.hid hcb
  have M0 := h.stp (Stp.cut ha (fun _ => False)) fun _ h => h
  have HM := Lib.hid M0
  have HH := Lib.hid (holder_some 2 x cb mo sm nb es M0 hc hf (ht.stp (Stp.cut ha (fun _ => False)) fun h => h))
  rw [hk] at HH
  have e0 : ((er : Int) != 0) = true := by simp; omega
  have e1 : ¬ er = 0 := by omega
  have HF := Lib.hid fun W => fails_any (er : Int) W
  clear h ha hqb hcb hf hc M0 ht hk he
  go_wp2_with fail
  refine HH.out.mono ?_
  rintro e w9 ⟨rfl, hb9⟩
  have B9 := Lib.hid hb9
  clear hb9 HH
  go_wp2_with fail
  refine (HF.out _).mono ?_
  rintro e w1 ⟨rfl, hb⟩
  have B1 : Hid (Below w0.heap.size w0 w1) := Lib.hid (below_tr B9.out hb B9.out.size)
  have Q1 := Lib.hid (HQ.out.ab B1.out)
  have M1 := Lib.hid (HM.out.stp (Stp.of B1.out (fun _ => False) fun _ _ => rfl) fun _ h => h)
  have S1 : Hid (Stp (fun τ => τ.1 = s) w O w1 (cutTg O w.heap.size)) := Lib.hid ((Stp.cut HA.out _).ab B1.out)
  clear hb HQ HM B1
  go_wp2_with (first
    | (with_reducible refine wpList_storeC (o := ⟨none, .store _ (.tmp 4) (.tmp 21), _, _, _, _⟩) ?_ 40 (.tmp 4) (.tmp 21) ?_ (w.heap.size + 1) ?_ (ansE (er : Int)) ?_ (cs := ansE 0) (t := 40) Q1.out (szAnsE _) ?_ (ansE_one _) ?_
       · rfl
       · rfl
       · rfl
       · rfl
       · rfl
       intro wz hwz
       have QZ : Hid (CbB wz (w.heap.size + 1) 40 (ansE (er : Int))) := Lib.hid (by rw [hwz]; exact CbB.row Q1.out _)
       have FZ : Hid (Fr w1 wz (fun k => k = (w.heap.size + 1))) := Lib.hid (by rw [hwz]; exact fr_rowX _ _ _)
       clear hwz))
  refine bodyPost_ret (ans_results Tryz.results49 _ _ (w.heap.size + 1) (ansE (er : Int)) rfl QZ.out rfl) rfl ?_
  exact DoR.flat (er : Int) 0 0 0 ⟨m, bs, M1.out.stp (Stp.box FZ.out (cutTg_at (Nat.le_succ _))) fun i e => by have := M1.out.pos; injection e with e; omega⟩ (S1.out.fresh FZ.out (Nat.le_succ _))
set_option maxRecDepth 100000 in
set_option maxHeartbeats 1000000 in
theorem id_get_none (h : IdM w O s blocks T m bs) (hc : c.Ok) (hf : fnd bs (c.hd / 4294967296) = none) :
    Calls Tryz.prog 50 #[.pointer (some ⟨s, 0, none⟩), .agg c.cs] w (DoR s blocks w O (errA 7) T) := by
  have ha : Below w.heap.size w ((w.alloc (.cells #[.int .i64 c.kind, .int .u32 (c.ten : Int), .slice c.sec.A c.sec.n c.sec.c, .int .i64 c.quota, .int .i64 c.n, .int .u64 (c.hd : Int), .int .u64 (c.oth : Int), .int .u64 (c.sn : Int), .int .u8 (c.rt : Int), .slice c.oA c.oN c.oC, .slice c.key.A c.key.n c.key.c, .slice c.frm.A c.frm.n c.frm.c, .slice c.upto.A c.upto.n c.upto.c, .bool c.back] 36)).alloc (.cells #[.int .i64 0, .int .u64 0, .int .u64 0, .slice none 0 0, .slice none 0 0, .int .i64 0, .slice none 0 0] 40)) := ((Below.refl _ _).alloc (Nat.le_refl _) _).alloc (by simp) _
  have hcb : CbB ((w.alloc (.cells #[.int .i64 c.kind, .int .u32 (c.ten : Int), .slice c.sec.A c.sec.n c.sec.c, .int .i64 c.quota, .int .i64 c.n, .int .u64 (c.hd : Int), .int .u64 (c.oth : Int), .int .u64 (c.sn : Int), .int .u8 (c.rt : Int), .slice c.oA c.oN c.oC, .slice c.key.A c.key.n c.key.c, .slice c.frm.A c.frm.n c.frm.c, .slice c.upto.A c.upto.n c.upto.c, .bool c.back] 36)).alloc (.cells #[.int .i64 0, .int .u64 0, .int .u64 0, .slice none 0 0, .slice none 0 0, .int .i64 0, .slice none 0 0] 40)) w.heap.size 36 c.cs := (CbB.new w _ _).ab ((Below.refl _ _).alloc (Nat.le_refl _) _)
  have hqb : CbB ((w.alloc (.cells #[.int .i64 c.kind, .int .u32 (c.ten : Int), .slice c.sec.A c.sec.n c.sec.c, .int .i64 c.quota, .int .i64 c.n, .int .u64 (c.hd : Int), .int .u64 (c.oth : Int), .int .u64 (c.sn : Int), .int .u8 (c.rt : Int), .slice c.oA c.oN c.oC, .slice c.key.A c.key.n c.key.c, .slice c.frm.A c.frm.n c.frm.c, .slice c.upto.A c.upto.n c.upto.c, .bool c.back] 36)).alloc (.cells #[.int .i64 0, .int .u64 0, .int .u64 0, .slice none 0 0, .slice none 0 0, .int .i64 0, .slice none 0 0] 40)) (w.heap.size + 1) 40 (ansE 0) := CbB.newI (by simp)
  unfold CallP.cs at hcb ⊢
  go_enter Tryz.func50, Tryz.ntmps50
  go_upto_region 1 with (fail)
  obtain ⟨w0, hw0⟩ : ∃ w0, ((w.alloc (.cells #[.int .i64 c.kind, .int .u32 (c.ten : Int), .slice c.sec.A c.sec.n c.sec.c, .int .i64 c.quota, .int .i64 c.n, .int .u64 (c.hd : Int), .int .u64 (c.oth : Int), .int .u64 (c.sn : Int), .int .u8 (c.rt : Int), .slice c.oA c.oN c.oC, .slice c.key.A c.key.n c.key.c, .slice c.frm.A c.frm.n c.frm.c, .slice c.upto.A c.upto.n c.upto.c, .bool c.back] 36)).alloc (.cells #[.int .i64 0, .int .u64 0, .int .u64 0, .slice none 0 0, .slice none 0 0, .int .i64 0, .slice none 0 0] 40)) = w0 := ⟨_, rfl⟩
  rw [hw0] at ha hcb hqb ⊢
  clear hw0
  have c0 := (hcb).cell (k := 0) rfl
  have c1 := (hcb).cell (k := 1) rfl
  have c2 := (hcb).cell (k := 2) rfl
  have c3 := (hcb).cell (k := 3) rfl
  have c4 := (hcb).cell (k := 4) rfl
  have c5 := (hcb).cell (k := 5) rfl
  have c6 := (hcb).cell (k := 6) rfl
  have c7 := (hcb).cell (k := 7) rfl
  have c8 := (hcb).cell (k := 8) rfl
  have c9 := (hcb).cell (k := 9) rfl
  have c10 := (hcb).cell (k := 10) rfl
  have c11 := (hcb).cell (k := 11) rfl
  have c12 := (hcb).cell (k := 12) rfl
  have c13 := (hcb).cell (k := 13) rfl
  have HA := Lib.hid ha
  have HQ := Lib.hid hqb
  have HB := Lib.hid hcb
  have M0 := h.stp (Stp.cut ha (fun _ => False)) fun _ h => h
  have HM := Lib.hid M0
  have HH := Lib.hid (holder_none 1 M0 hc hf)
  have HF := Lib.hid fun W => fails_any 7 W
  clear h ha hqb hcb hf hc M0
  go_wp2_with fail
  refine HH.out.mono ?_
  rintro e w9 ⟨rfl, hb9⟩
  have B9 := Lib.hid hb9
  clear hb9 HH
  go_wp2_with fail
  refine (HF.out _).mono ?_
  rintro e w1 ⟨rfl, hb⟩
  have B1 : Hid (Below w0.heap.size w0 w1) := Lib.hid (below_tr B9.out hb B9.out.size)
  have Q1 := Lib.hid (HQ.out.ab B1.out)
  have M1 := Lib.hid (HM.out.stp (Stp.of B1.out (fun _ => False) fun _ _ => rfl) fun _ h => h)
  have S1 : Hid (Stp (fun τ => τ.1 = s) w O w1 (cutTg O w.heap.size)) := Lib.hid ((Stp.cut HA.out _).ab B1.out)
  clear hb HQ HM B1
  go_wp2_with (first
    | (with_reducible refine wpList_storeC (o := ⟨none, .store _ (.tmp 4) (.tmp 22), _, _, _, _⟩) ?_ 40 (.tmp 4) (.tmp 22) ?_ (w.heap.size + 1) ?_ (ansE 7) ?_ (cs := ansE 0) (t := 40) Q1.out (szAnsE _) ?_ (ansE_one _) ?_
       · rfl
       · rfl
       · rfl
       · rfl
       · rfl
       intro wz hwz
       have QZ : Hid (CbB wz (w.heap.size + 1) 40 (ansE 7)) := Lib.hid (by rw [hwz]; exact CbB.row Q1.out _)
       have FZ : Hid (Fr w1 wz (fun k => k = (w.heap.size + 1))) := Lib.hid (by rw [hwz]; exact fr_rowX _ _ _)
       clear hwz))
  refine bodyPost_ret (ans_results Tryz.results50 _ _ (w.heap.size + 1) (ansE 7) rfl QZ.out rfl) rfl ?_
  exact DoR.flat 7 0 0 0 ⟨m, bs, M1.out.stp (Stp.box FZ.out (cutTg_at (Nat.le_succ _))) fun i e => by have := M1.out.pos; injection e with e; omega⟩ (S1.out.fresh FZ.out (Nat.le_succ _))
set_option maxRecDepth 100000 in
set_option maxHeartbeats 1000000 in
theorem id_get_deny (x : Nat × TnP) (h : IdM w O s blocks T m bs) (hc : c.Ok) (hf : fnd bs (c.hd / 4294967296) = some x) (er : Nat) (hk : checkH x.2.A (c.hd % 4294967296) 1 = er) (he : 0 < er) :
    Calls Tryz.prog 50 #[.pointer (some ⟨s, 0, none⟩), .agg c.cs] w (DoR s blocks w O (errA er) T) := by
  obtain ⟨cb, mo, sm, nb, es, ht⟩ := h.all x (fnd_mem hf).1
  have ha : Below w.heap.size w ((w.alloc (.cells #[.int .i64 c.kind, .int .u32 (c.ten : Int), .slice c.sec.A c.sec.n c.sec.c, .int .i64 c.quota, .int .i64 c.n, .int .u64 (c.hd : Int), .int .u64 (c.oth : Int), .int .u64 (c.sn : Int), .int .u8 (c.rt : Int), .slice c.oA c.oN c.oC, .slice c.key.A c.key.n c.key.c, .slice c.frm.A c.frm.n c.frm.c, .slice c.upto.A c.upto.n c.upto.c, .bool c.back] 36)).alloc (.cells #[.int .i64 0, .int .u64 0, .int .u64 0, .slice none 0 0, .slice none 0 0, .int .i64 0, .slice none 0 0] 40)) := ((Below.refl _ _).alloc (Nat.le_refl _) _).alloc (by simp) _
  have hcb : CbB ((w.alloc (.cells #[.int .i64 c.kind, .int .u32 (c.ten : Int), .slice c.sec.A c.sec.n c.sec.c, .int .i64 c.quota, .int .i64 c.n, .int .u64 (c.hd : Int), .int .u64 (c.oth : Int), .int .u64 (c.sn : Int), .int .u8 (c.rt : Int), .slice c.oA c.oN c.oC, .slice c.key.A c.key.n c.key.c, .slice c.frm.A c.frm.n c.frm.c, .slice c.upto.A c.upto.n c.upto.c, .bool c.back] 36)).alloc (.cells #[.int .i64 0, .int .u64 0, .int .u64 0, .slice none 0 0, .slice none 0 0, .int .i64 0, .slice none 0 0] 40)) w.heap.size 36 c.cs := (CbB.new w _ _).ab ((Below.refl _ _).alloc (Nat.le_refl _) _)
  have hqb : CbB ((w.alloc (.cells #[.int .i64 c.kind, .int .u32 (c.ten : Int), .slice c.sec.A c.sec.n c.sec.c, .int .i64 c.quota, .int .i64 c.n, .int .u64 (c.hd : Int), .int .u64 (c.oth : Int), .int .u64 (c.sn : Int), .int .u8 (c.rt : Int), .slice c.oA c.oN c.oC, .slice c.key.A c.key.n c.key.c, .slice c.frm.A c.frm.n c.frm.c, .slice c.upto.A c.upto.n c.upto.c, .bool c.back] 36)).alloc (.cells #[.int .i64 0, .int .u64 0, .int .u64 0, .slice none 0 0, .slice none 0 0, .int .i64 0, .slice none 0 0] 40)) (w.heap.size + 1) 40 (ansE 0) := CbB.newI (by simp)
  unfold CallP.cs at hcb ⊢
  go_enter Tryz.func50, Tryz.ntmps50
  go_upto_region 1 with (fail)
  obtain ⟨w0, hw0⟩ : ∃ w0, ((w.alloc (.cells #[.int .i64 c.kind, .int .u32 (c.ten : Int), .slice c.sec.A c.sec.n c.sec.c, .int .i64 c.quota, .int .i64 c.n, .int .u64 (c.hd : Int), .int .u64 (c.oth : Int), .int .u64 (c.sn : Int), .int .u8 (c.rt : Int), .slice c.oA c.oN c.oC, .slice c.key.A c.key.n c.key.c, .slice c.frm.A c.frm.n c.frm.c, .slice c.upto.A c.upto.n c.upto.c, .bool c.back] 36)).alloc (.cells #[.int .i64 0, .int .u64 0, .int .u64 0, .slice none 0 0, .slice none 0 0, .int .i64 0, .slice none 0 0] 40)) = w0 := ⟨_, rfl⟩
  rw [hw0] at ha hcb hqb ⊢
  clear hw0
  have c0 := (hcb).cell (k := 0) rfl
  have c1 := (hcb).cell (k := 1) rfl
  have c2 := (hcb).cell (k := 2) rfl
  have c3 := (hcb).cell (k := 3) rfl
  have c4 := (hcb).cell (k := 4) rfl
  have c5 := (hcb).cell (k := 5) rfl
  have c6 := (hcb).cell (k := 6) rfl
  have c7 := (hcb).cell (k := 7) rfl
  have c8 := (hcb).cell (k := 8) rfl
  have c9 := (hcb).cell (k := 9) rfl
  have c10 := (hcb).cell (k := 10) rfl
  have c11 := (hcb).cell (k := 11) rfl
  have c12 := (hcb).cell (k := 12) rfl
  have c13 := (hcb).cell (k := 13) rfl
  have HA := Lib.hid ha
  have HQ := Lib.hid hqb
  have HB := Lib.hid hcb
  have M0 := h.stp (Stp.cut ha (fun _ => False)) fun _ h => h
  have HM := Lib.hid M0
  have HH := Lib.hid (holder_some 1 x cb mo sm nb es M0 hc hf (ht.stp (Stp.cut ha (fun _ => False)) fun h => h))
  rw [hk] at HH
  have e0 : ((er : Int) != 0) = true := by simp; omega
  have e1 : ¬ er = 0 := by omega
  have HF := Lib.hid fun W => fails_any (er : Int) W
  clear h ha hqb hcb hf hc M0 ht hk he
  go_wp2_with fail
  refine HH.out.mono ?_
  rintro e w9 ⟨rfl, hb9⟩
  have B9 := Lib.hid hb9
  clear hb9 HH
  go_wp2_with fail
  refine (HF.out _).mono ?_
  rintro e w1 ⟨rfl, hb⟩
  have B1 : Hid (Below w0.heap.size w0 w1) := Lib.hid (below_tr B9.out hb B9.out.size)
  have Q1 := Lib.hid (HQ.out.ab B1.out)
  have M1 := Lib.hid (HM.out.stp (Stp.of B1.out (fun _ => False) fun _ _ => rfl) fun _ h => h)
  have S1 : Hid (Stp (fun τ => τ.1 = s) w O w1 (cutTg O w.heap.size)) := Lib.hid ((Stp.cut HA.out _).ab B1.out)
  clear hb HQ HM B1
  go_wp2_with (first
    | (with_reducible refine wpList_storeC (o := ⟨none, .store _ (.tmp 4) (.tmp 22), _, _, _, _⟩) ?_ 40 (.tmp 4) (.tmp 22) ?_ (w.heap.size + 1) ?_ (ansE (er : Int)) ?_ (cs := ansE 0) (t := 40) Q1.out (szAnsE _) ?_ (ansE_one _) ?_
       · rfl
       · rfl
       · rfl
       · rfl
       · rfl
       intro wz hwz
       have QZ : Hid (CbB wz (w.heap.size + 1) 40 (ansE (er : Int))) := Lib.hid (by rw [hwz]; exact CbB.row Q1.out _)
       have FZ : Hid (Fr w1 wz (fun k => k = (w.heap.size + 1))) := Lib.hid (by rw [hwz]; exact fr_rowX _ _ _)
       clear hwz))
  refine bodyPost_ret (ans_results Tryz.results50 _ _ (w.heap.size + 1) (ansE (er : Int)) rfl QZ.out rfl) rfl ?_
  exact DoR.flat (er : Int) 0 0 0 ⟨m, bs, M1.out.stp (Stp.box FZ.out (cutTg_at (Nat.le_succ _))) fun i e => by have := M1.out.pos; injection e with e; omega⟩ (S1.out.fresh FZ.out (Nat.le_succ _))
set_option maxRecDepth 100000 in
set_option maxHeartbeats 1000000 in
theorem id_scan_none (h : IdM w O s blocks T m bs) (hc : c.Ok) (hf : fnd bs (c.hd / 4294967296) = none) :
    Calls Tryz.prog 51 #[.pointer (some ⟨s, 0, none⟩), .agg c.cs] w (DoR s blocks w O (errA 7) T) := by
  have ha : Below w.heap.size w ((w.alloc (.cells #[.int .i64 c.kind, .int .u32 (c.ten : Int), .slice c.sec.A c.sec.n c.sec.c, .int .i64 c.quota, .int .i64 c.n, .int .u64 (c.hd : Int), .int .u64 (c.oth : Int), .int .u64 (c.sn : Int), .int .u8 (c.rt : Int), .slice c.oA c.oN c.oC, .slice c.key.A c.key.n c.key.c, .slice c.frm.A c.frm.n c.frm.c, .slice c.upto.A c.upto.n c.upto.c, .bool c.back] 36)).alloc (.cells #[.int .i64 0, .int .u64 0, .int .u64 0, .slice none 0 0, .slice none 0 0, .int .i64 0, .slice none 0 0] 40)) := ((Below.refl _ _).alloc (Nat.le_refl _) _).alloc (by simp) _
  have hcb : CbB ((w.alloc (.cells #[.int .i64 c.kind, .int .u32 (c.ten : Int), .slice c.sec.A c.sec.n c.sec.c, .int .i64 c.quota, .int .i64 c.n, .int .u64 (c.hd : Int), .int .u64 (c.oth : Int), .int .u64 (c.sn : Int), .int .u8 (c.rt : Int), .slice c.oA c.oN c.oC, .slice c.key.A c.key.n c.key.c, .slice c.frm.A c.frm.n c.frm.c, .slice c.upto.A c.upto.n c.upto.c, .bool c.back] 36)).alloc (.cells #[.int .i64 0, .int .u64 0, .int .u64 0, .slice none 0 0, .slice none 0 0, .int .i64 0, .slice none 0 0] 40)) w.heap.size 36 c.cs := (CbB.new w _ _).ab ((Below.refl _ _).alloc (Nat.le_refl _) _)
  have hqb : CbB ((w.alloc (.cells #[.int .i64 c.kind, .int .u32 (c.ten : Int), .slice c.sec.A c.sec.n c.sec.c, .int .i64 c.quota, .int .i64 c.n, .int .u64 (c.hd : Int), .int .u64 (c.oth : Int), .int .u64 (c.sn : Int), .int .u8 (c.rt : Int), .slice c.oA c.oN c.oC, .slice c.key.A c.key.n c.key.c, .slice c.frm.A c.frm.n c.frm.c, .slice c.upto.A c.upto.n c.upto.c, .bool c.back] 36)).alloc (.cells #[.int .i64 0, .int .u64 0, .int .u64 0, .slice none 0 0, .slice none 0 0, .int .i64 0, .slice none 0 0] 40)) (w.heap.size + 1) 40 (ansE 0) := CbB.newI (by simp)
  unfold CallP.cs at hcb ⊢
  go_enter Tryz.func51, Tryz.ntmps51
  go_upto_region 1 with (fail)
  obtain ⟨w0, hw0⟩ : ∃ w0, ((w.alloc (.cells #[.int .i64 c.kind, .int .u32 (c.ten : Int), .slice c.sec.A c.sec.n c.sec.c, .int .i64 c.quota, .int .i64 c.n, .int .u64 (c.hd : Int), .int .u64 (c.oth : Int), .int .u64 (c.sn : Int), .int .u8 (c.rt : Int), .slice c.oA c.oN c.oC, .slice c.key.A c.key.n c.key.c, .slice c.frm.A c.frm.n c.frm.c, .slice c.upto.A c.upto.n c.upto.c, .bool c.back] 36)).alloc (.cells #[.int .i64 0, .int .u64 0, .int .u64 0, .slice none 0 0, .slice none 0 0, .int .i64 0, .slice none 0 0] 40)) = w0 := ⟨_, rfl⟩
  rw [hw0] at ha hcb hqb ⊢
  clear hw0
  have c0 := (hcb).cell (k := 0) rfl
  have c1 := (hcb).cell (k := 1) rfl
  have c2 := (hcb).cell (k := 2) rfl
  have c3 := (hcb).cell (k := 3) rfl
  have c4 := (hcb).cell (k := 4) rfl
  have c5 := (hcb).cell (k := 5) rfl
  have c6 := (hcb).cell (k := 6) rfl
  have c7 := (hcb).cell (k := 7) rfl
  have c8 := (hcb).cell (k := 8) rfl
  have c9 := (hcb).cell (k := 9) rfl
  have c10 := (hcb).cell (k := 10) rfl
  have c11 := (hcb).cell (k := 11) rfl
  have c12 := (hcb).cell (k := 12) rfl
  have c13 := (hcb).cell (k := 13) rfl
  have HA := Lib.hid ha
  have HQ := Lib.hid hqb
  have HB := Lib.hid hcb
  have M0 := h.stp (Stp.cut ha (fun _ => False)) fun _ h => h
  have HM := Lib.hid M0
  have HH := Lib.hid (holder_none 1 M0 hc hf)
  have HF := Lib.hid fun W => fails_any 7 W
  clear h ha hqb hcb hf hc M0
  go_wp2_with fail
  refine HH.out.mono ?_
  rintro e w9 ⟨rfl, hb9⟩
  have B9 := Lib.hid hb9
  clear hb9 HH
  go_wp2_with fail
  refine (HF.out _).mono ?_
  rintro e w1 ⟨rfl, hb⟩
  have B1 : Hid (Below w0.heap.size w0 w1) := Lib.hid (below_tr B9.out hb B9.out.size)
  have Q1 := Lib.hid (HQ.out.ab B1.out)
  have M1 := Lib.hid (HM.out.stp (Stp.of B1.out (fun _ => False) fun _ _ => rfl) fun _ h => h)
  have S1 : Hid (Stp (fun τ => τ.1 = s) w O w1 (cutTg O w.heap.size)) := Lib.hid ((Stp.cut HA.out _).ab B1.out)
  clear hb HQ HM B1
  go_wp2_with (first
    | (with_reducible refine wpList_storeC (o := ⟨none, .store _ (.tmp 4) (.tmp 24), _, _, _, _⟩) ?_ 40 (.tmp 4) (.tmp 24) ?_ (w.heap.size + 1) ?_ (ansE 7) ?_ (cs := ansE 0) (t := 40) Q1.out (szAnsE _) ?_ (ansE_one _) ?_
       · rfl
       · rfl
       · rfl
       · rfl
       · rfl
       intro wz hwz
       have QZ : Hid (CbB wz (w.heap.size + 1) 40 (ansE 7)) := Lib.hid (by rw [hwz]; exact CbB.row Q1.out _)
       have FZ : Hid (Fr w1 wz (fun k => k = (w.heap.size + 1))) := Lib.hid (by rw [hwz]; exact fr_rowX _ _ _)
       clear hwz))
  refine bodyPost_ret (ans_results Tryz.results51 _ _ (w.heap.size + 1) (ansE 7) rfl QZ.out rfl) rfl ?_
  exact DoR.flat 7 0 0 0 ⟨m, bs, M1.out.stp (Stp.box FZ.out (cutTg_at (Nat.le_succ _))) fun i e => by have := M1.out.pos; injection e with e; omega⟩ (S1.out.fresh FZ.out (Nat.le_succ _))
set_option maxRecDepth 100000 in
set_option maxHeartbeats 1000000 in
theorem id_scan_deny (x : Nat × TnP) (h : IdM w O s blocks T m bs) (hc : c.Ok) (hf : fnd bs (c.hd / 4294967296) = some x) (er : Nat) (hk : checkH x.2.A (c.hd % 4294967296) 1 = er) (he : 0 < er) :
    Calls Tryz.prog 51 #[.pointer (some ⟨s, 0, none⟩), .agg c.cs] w (DoR s blocks w O (errA er) T) := by
  obtain ⟨cb, mo, sm, nb, es, ht⟩ := h.all x (fnd_mem hf).1
  have ha : Below w.heap.size w ((w.alloc (.cells #[.int .i64 c.kind, .int .u32 (c.ten : Int), .slice c.sec.A c.sec.n c.sec.c, .int .i64 c.quota, .int .i64 c.n, .int .u64 (c.hd : Int), .int .u64 (c.oth : Int), .int .u64 (c.sn : Int), .int .u8 (c.rt : Int), .slice c.oA c.oN c.oC, .slice c.key.A c.key.n c.key.c, .slice c.frm.A c.frm.n c.frm.c, .slice c.upto.A c.upto.n c.upto.c, .bool c.back] 36)).alloc (.cells #[.int .i64 0, .int .u64 0, .int .u64 0, .slice none 0 0, .slice none 0 0, .int .i64 0, .slice none 0 0] 40)) := ((Below.refl _ _).alloc (Nat.le_refl _) _).alloc (by simp) _
  have hcb : CbB ((w.alloc (.cells #[.int .i64 c.kind, .int .u32 (c.ten : Int), .slice c.sec.A c.sec.n c.sec.c, .int .i64 c.quota, .int .i64 c.n, .int .u64 (c.hd : Int), .int .u64 (c.oth : Int), .int .u64 (c.sn : Int), .int .u8 (c.rt : Int), .slice c.oA c.oN c.oC, .slice c.key.A c.key.n c.key.c, .slice c.frm.A c.frm.n c.frm.c, .slice c.upto.A c.upto.n c.upto.c, .bool c.back] 36)).alloc (.cells #[.int .i64 0, .int .u64 0, .int .u64 0, .slice none 0 0, .slice none 0 0, .int .i64 0, .slice none 0 0] 40)) w.heap.size 36 c.cs := (CbB.new w _ _).ab ((Below.refl _ _).alloc (Nat.le_refl _) _)
  have hqb : CbB ((w.alloc (.cells #[.int .i64 c.kind, .int .u32 (c.ten : Int), .slice c.sec.A c.sec.n c.sec.c, .int .i64 c.quota, .int .i64 c.n, .int .u64 (c.hd : Int), .int .u64 (c.oth : Int), .int .u64 (c.sn : Int), .int .u8 (c.rt : Int), .slice c.oA c.oN c.oC, .slice c.key.A c.key.n c.key.c, .slice c.frm.A c.frm.n c.frm.c, .slice c.upto.A c.upto.n c.upto.c, .bool c.back] 36)).alloc (.cells #[.int .i64 0, .int .u64 0, .int .u64 0, .slice none 0 0, .slice none 0 0, .int .i64 0, .slice none 0 0] 40)) (w.heap.size + 1) 40 (ansE 0) := CbB.newI (by simp)
  unfold CallP.cs at hcb ⊢
  go_enter Tryz.func51, Tryz.ntmps51
  go_upto_region 1 with (fail)
  obtain ⟨w0, hw0⟩ : ∃ w0, ((w.alloc (.cells #[.int .i64 c.kind, .int .u32 (c.ten : Int), .slice c.sec.A c.sec.n c.sec.c, .int .i64 c.quota, .int .i64 c.n, .int .u64 (c.hd : Int), .int .u64 (c.oth : Int), .int .u64 (c.sn : Int), .int .u8 (c.rt : Int), .slice c.oA c.oN c.oC, .slice c.key.A c.key.n c.key.c, .slice c.frm.A c.frm.n c.frm.c, .slice c.upto.A c.upto.n c.upto.c, .bool c.back] 36)).alloc (.cells #[.int .i64 0, .int .u64 0, .int .u64 0, .slice none 0 0, .slice none 0 0, .int .i64 0, .slice none 0 0] 40)) = w0 := ⟨_, rfl⟩
  rw [hw0] at ha hcb hqb ⊢
  clear hw0
  have c0 := (hcb).cell (k := 0) rfl
  have c1 := (hcb).cell (k := 1) rfl
  have c2 := (hcb).cell (k := 2) rfl
  have c3 := (hcb).cell (k := 3) rfl
  have c4 := (hcb).cell (k := 4) rfl
  have c5 := (hcb).cell (k := 5) rfl
  have c6 := (hcb).cell (k := 6) rfl
  have c7 := (hcb).cell (k := 7) rfl
  have c8 := (hcb).cell (k := 8) rfl
  have c9 := (hcb).cell (k := 9) rfl
  have c10 := (hcb).cell (k := 10) rfl
  have c11 := (hcb).cell (k := 11) rfl
  have c12 := (hcb).cell (k := 12) rfl
  have c13 := (hcb).cell (k := 13) rfl
  have HA := Lib.hid ha
  have HQ := Lib.hid hqb
  have HB := Lib.hid hcb
  have M0 := h.stp (Stp.cut ha (fun _ => False)) fun _ h => h
  have HM := Lib.hid M0
  have HH := Lib.hid (holder_some 1 x cb mo sm nb es M0 hc hf (ht.stp (Stp.cut ha (fun _ => False)) fun h => h))
  rw [hk] at HH
  have e0 : ((er : Int) != 0) = true := by simp; omega
  have e1 : ¬ er = 0 := by omega
  have HF := Lib.hid fun W => fails_any (er : Int) W
  clear h ha hqb hcb hf hc M0 ht hk he
  go_wp2_with fail
  refine HH.out.mono ?_
  rintro e w9 ⟨rfl, hb9⟩
  have B9 := Lib.hid hb9
  clear hb9 HH
  go_wp2_with fail
  refine (HF.out _).mono ?_
  rintro e w1 ⟨rfl, hb⟩
  have B1 : Hid (Below w0.heap.size w0 w1) := Lib.hid (below_tr B9.out hb B9.out.size)
  have Q1 := Lib.hid (HQ.out.ab B1.out)
  have M1 := Lib.hid (HM.out.stp (Stp.of B1.out (fun _ => False) fun _ _ => rfl) fun _ h => h)
  have S1 : Hid (Stp (fun τ => τ.1 = s) w O w1 (cutTg O w.heap.size)) := Lib.hid ((Stp.cut HA.out _).ab B1.out)
  clear hb HQ HM B1
  go_wp2_with (first
    | (with_reducible refine wpList_storeC (o := ⟨none, .store _ (.tmp 4) (.tmp 24), _, _, _, _⟩) ?_ 40 (.tmp 4) (.tmp 24) ?_ (w.heap.size + 1) ?_ (ansE (er : Int)) ?_ (cs := ansE 0) (t := 40) Q1.out (szAnsE _) ?_ (ansE_one _) ?_
       · rfl
       · rfl
       · rfl
       · rfl
       · rfl
       intro wz hwz
       have QZ : Hid (CbB wz (w.heap.size + 1) 40 (ansE (er : Int))) := Lib.hid (by rw [hwz]; exact CbB.row Q1.out _)
       have FZ : Hid (Fr w1 wz (fun k => k = (w.heap.size + 1))) := Lib.hid (by rw [hwz]; exact fr_rowX _ _ _)
       clear hwz))
  refine bodyPost_ret (ans_results Tryz.results51 _ _ (w.heap.size + 1) (ansE (er : Int)) rfl QZ.out rfl) rfl ?_
  exact DoR.flat (er : Int) 0 0 0 ⟨m, bs, M1.out.stp (Stp.box FZ.out (cutTg_at (Nat.le_succ _))) fun i e => by have := M1.out.pos; injection e with e; omega⟩ (S1.out.fresh FZ.out (Nat.le_succ _))
set_option maxRecDepth 100000 in
set_option maxHeartbeats 1000000 in
theorem id_snap_none (h : IdM w O s blocks T m bs) (hc : c.Ok) (hf : fnd bs (c.hd / 4294967296) = none) :
    Calls Tryz.prog 52 #[.pointer (some ⟨s, 0, none⟩), .agg c.cs] w (DoR s blocks w O (errA 7) T) := by
  have ha : Below w.heap.size w ((w.alloc (.cells #[.int .i64 c.kind, .int .u32 (c.ten : Int), .slice c.sec.A c.sec.n c.sec.c, .int .i64 c.quota, .int .i64 c.n, .int .u64 (c.hd : Int), .int .u64 (c.oth : Int), .int .u64 (c.sn : Int), .int .u8 (c.rt : Int), .slice c.oA c.oN c.oC, .slice c.key.A c.key.n c.key.c, .slice c.frm.A c.frm.n c.frm.c, .slice c.upto.A c.upto.n c.upto.c, .bool c.back] 36)).alloc (.cells #[.int .i64 0, .int .u64 0, .int .u64 0, .slice none 0 0, .slice none 0 0, .int .i64 0, .slice none 0 0] 40)) := ((Below.refl _ _).alloc (Nat.le_refl _) _).alloc (by simp) _
  have hcb : CbB ((w.alloc (.cells #[.int .i64 c.kind, .int .u32 (c.ten : Int), .slice c.sec.A c.sec.n c.sec.c, .int .i64 c.quota, .int .i64 c.n, .int .u64 (c.hd : Int), .int .u64 (c.oth : Int), .int .u64 (c.sn : Int), .int .u8 (c.rt : Int), .slice c.oA c.oN c.oC, .slice c.key.A c.key.n c.key.c, .slice c.frm.A c.frm.n c.frm.c, .slice c.upto.A c.upto.n c.upto.c, .bool c.back] 36)).alloc (.cells #[.int .i64 0, .int .u64 0, .int .u64 0, .slice none 0 0, .slice none 0 0, .int .i64 0, .slice none 0 0] 40)) w.heap.size 36 c.cs := (CbB.new w _ _).ab ((Below.refl _ _).alloc (Nat.le_refl _) _)
  have hqb : CbB ((w.alloc (.cells #[.int .i64 c.kind, .int .u32 (c.ten : Int), .slice c.sec.A c.sec.n c.sec.c, .int .i64 c.quota, .int .i64 c.n, .int .u64 (c.hd : Int), .int .u64 (c.oth : Int), .int .u64 (c.sn : Int), .int .u8 (c.rt : Int), .slice c.oA c.oN c.oC, .slice c.key.A c.key.n c.key.c, .slice c.frm.A c.frm.n c.frm.c, .slice c.upto.A c.upto.n c.upto.c, .bool c.back] 36)).alloc (.cells #[.int .i64 0, .int .u64 0, .int .u64 0, .slice none 0 0, .slice none 0 0, .int .i64 0, .slice none 0 0] 40)) (w.heap.size + 1) 40 (ansE 0) := CbB.newI (by simp)
  unfold CallP.cs at hcb ⊢
  go_enter Tryz.func52, Tryz.ntmps52
  go_upto_region 1 with (fail)
  obtain ⟨w0, hw0⟩ : ∃ w0, ((w.alloc (.cells #[.int .i64 c.kind, .int .u32 (c.ten : Int), .slice c.sec.A c.sec.n c.sec.c, .int .i64 c.quota, .int .i64 c.n, .int .u64 (c.hd : Int), .int .u64 (c.oth : Int), .int .u64 (c.sn : Int), .int .u8 (c.rt : Int), .slice c.oA c.oN c.oC, .slice c.key.A c.key.n c.key.c, .slice c.frm.A c.frm.n c.frm.c, .slice c.upto.A c.upto.n c.upto.c, .bool c.back] 36)).alloc (.cells #[.int .i64 0, .int .u64 0, .int .u64 0, .slice none 0 0, .slice none 0 0, .int .i64 0, .slice none 0 0] 40)) = w0 := ⟨_, rfl⟩
  rw [hw0] at ha hcb hqb ⊢
  clear hw0
  have c0 := (hcb).cell (k := 0) rfl
  have c1 := (hcb).cell (k := 1) rfl
  have c2 := (hcb).cell (k := 2) rfl
  have c3 := (hcb).cell (k := 3) rfl
  have c4 := (hcb).cell (k := 4) rfl
  have c5 := (hcb).cell (k := 5) rfl
  have c6 := (hcb).cell (k := 6) rfl
  have c7 := (hcb).cell (k := 7) rfl
  have c8 := (hcb).cell (k := 8) rfl
  have c9 := (hcb).cell (k := 9) rfl
  have c10 := (hcb).cell (k := 10) rfl
  have c11 := (hcb).cell (k := 11) rfl
  have c12 := (hcb).cell (k := 12) rfl
  have c13 := (hcb).cell (k := 13) rfl
  have HA := Lib.hid ha
  have HQ := Lib.hid hqb
  have HB := Lib.hid hcb
  have M0 := h.stp (Stp.cut ha (fun _ => False)) fun _ h => h
  have HM := Lib.hid M0
  have HH := Lib.hid (holder_none 4 M0 hc hf)
  have HF := Lib.hid fun W => fails_any 7 W
  clear h ha hqb hcb hf hc M0
  go_wp2_with fail
  refine HH.out.mono ?_
  rintro e w9 ⟨rfl, hb9⟩
  have B9 := Lib.hid hb9
  clear hb9 HH
  go_wp2_with fail
  refine (HF.out _).mono ?_
  rintro e w1 ⟨rfl, hb⟩
  have B1 : Hid (Below w0.heap.size w0 w1) := Lib.hid (below_tr B9.out hb B9.out.size)
  have Q1 := Lib.hid (HQ.out.ab B1.out)
  have M1 := Lib.hid (HM.out.stp (Stp.of B1.out (fun _ => False) fun _ _ => rfl) fun _ h => h)
  have S1 : Hid (Stp (fun τ => τ.1 = s) w O w1 (cutTg O w.heap.size)) := Lib.hid ((Stp.cut HA.out _).ab B1.out)
  clear hb HQ HM B1
  go_wp2_with (first
    | (with_reducible refine wpList_storeC (o := ⟨none, .store _ (.tmp 4) (.tmp 19), _, _, _, _⟩) ?_ 40 (.tmp 4) (.tmp 19) ?_ (w.heap.size + 1) ?_ (ansE 7) ?_ (cs := ansE 0) (t := 40) Q1.out (szAnsE _) ?_ (ansE_one _) ?_
       · rfl
       · rfl
       · rfl
       · rfl
       · rfl
       intro wz hwz
       have QZ : Hid (CbB wz (w.heap.size + 1) 40 (ansE 7)) := Lib.hid (by rw [hwz]; exact CbB.row Q1.out _)
       have FZ : Hid (Fr w1 wz (fun k => k = (w.heap.size + 1))) := Lib.hid (by rw [hwz]; exact fr_rowX _ _ _)
       clear hwz))
  refine bodyPost_ret (ans_results Tryz.results52 _ _ (w.heap.size + 1) (ansE 7) rfl QZ.out rfl) rfl ?_
  exact DoR.flat 7 0 0 0 ⟨m, bs, M1.out.stp (Stp.box FZ.out (cutTg_at (Nat.le_succ _))) fun i e => by have := M1.out.pos; injection e with e; omega⟩ (S1.out.fresh FZ.out (Nat.le_succ _))
set_option maxRecDepth 100000 in
set_option maxHeartbeats 1000000 in
theorem id_snap_deny (x : Nat × TnP) (h : IdM w O s blocks T m bs) (hc : c.Ok) (hf : fnd bs (c.hd / 4294967296) = some x) (er : Nat) (hk : checkH x.2.A (c.hd % 4294967296) 4 = er) (he : 0 < er) :
    Calls Tryz.prog 52 #[.pointer (some ⟨s, 0, none⟩), .agg c.cs] w (DoR s blocks w O (errA er) T) := by
  obtain ⟨cb, mo, sm, nb, es, ht⟩ := h.all x (fnd_mem hf).1
  have ha : Below w.heap.size w ((w.alloc (.cells #[.int .i64 c.kind, .int .u32 (c.ten : Int), .slice c.sec.A c.sec.n c.sec.c, .int .i64 c.quota, .int .i64 c.n, .int .u64 (c.hd : Int), .int .u64 (c.oth : Int), .int .u64 (c.sn : Int), .int .u8 (c.rt : Int), .slice c.oA c.oN c.oC, .slice c.key.A c.key.n c.key.c, .slice c.frm.A c.frm.n c.frm.c, .slice c.upto.A c.upto.n c.upto.c, .bool c.back] 36)).alloc (.cells #[.int .i64 0, .int .u64 0, .int .u64 0, .slice none 0 0, .slice none 0 0, .int .i64 0, .slice none 0 0] 40)) := ((Below.refl _ _).alloc (Nat.le_refl _) _).alloc (by simp) _
  have hcb : CbB ((w.alloc (.cells #[.int .i64 c.kind, .int .u32 (c.ten : Int), .slice c.sec.A c.sec.n c.sec.c, .int .i64 c.quota, .int .i64 c.n, .int .u64 (c.hd : Int), .int .u64 (c.oth : Int), .int .u64 (c.sn : Int), .int .u8 (c.rt : Int), .slice c.oA c.oN c.oC, .slice c.key.A c.key.n c.key.c, .slice c.frm.A c.frm.n c.frm.c, .slice c.upto.A c.upto.n c.upto.c, .bool c.back] 36)).alloc (.cells #[.int .i64 0, .int .u64 0, .int .u64 0, .slice none 0 0, .slice none 0 0, .int .i64 0, .slice none 0 0] 40)) w.heap.size 36 c.cs := (CbB.new w _ _).ab ((Below.refl _ _).alloc (Nat.le_refl _) _)
  have hqb : CbB ((w.alloc (.cells #[.int .i64 c.kind, .int .u32 (c.ten : Int), .slice c.sec.A c.sec.n c.sec.c, .int .i64 c.quota, .int .i64 c.n, .int .u64 (c.hd : Int), .int .u64 (c.oth : Int), .int .u64 (c.sn : Int), .int .u8 (c.rt : Int), .slice c.oA c.oN c.oC, .slice c.key.A c.key.n c.key.c, .slice c.frm.A c.frm.n c.frm.c, .slice c.upto.A c.upto.n c.upto.c, .bool c.back] 36)).alloc (.cells #[.int .i64 0, .int .u64 0, .int .u64 0, .slice none 0 0, .slice none 0 0, .int .i64 0, .slice none 0 0] 40)) (w.heap.size + 1) 40 (ansE 0) := CbB.newI (by simp)
  unfold CallP.cs at hcb ⊢
  go_enter Tryz.func52, Tryz.ntmps52
  go_upto_region 1 with (fail)
  obtain ⟨w0, hw0⟩ : ∃ w0, ((w.alloc (.cells #[.int .i64 c.kind, .int .u32 (c.ten : Int), .slice c.sec.A c.sec.n c.sec.c, .int .i64 c.quota, .int .i64 c.n, .int .u64 (c.hd : Int), .int .u64 (c.oth : Int), .int .u64 (c.sn : Int), .int .u8 (c.rt : Int), .slice c.oA c.oN c.oC, .slice c.key.A c.key.n c.key.c, .slice c.frm.A c.frm.n c.frm.c, .slice c.upto.A c.upto.n c.upto.c, .bool c.back] 36)).alloc (.cells #[.int .i64 0, .int .u64 0, .int .u64 0, .slice none 0 0, .slice none 0 0, .int .i64 0, .slice none 0 0] 40)) = w0 := ⟨_, rfl⟩
  rw [hw0] at ha hcb hqb ⊢
  clear hw0
  have c0 := (hcb).cell (k := 0) rfl
  have c1 := (hcb).cell (k := 1) rfl
  have c2 := (hcb).cell (k := 2) rfl
  have c3 := (hcb).cell (k := 3) rfl
  have c4 := (hcb).cell (k := 4) rfl
  have c5 := (hcb).cell (k := 5) rfl
  have c6 := (hcb).cell (k := 6) rfl
  have c7 := (hcb).cell (k := 7) rfl
  have c8 := (hcb).cell (k := 8) rfl
  have c9 := (hcb).cell (k := 9) rfl
  have c10 := (hcb).cell (k := 10) rfl
  have c11 := (hcb).cell (k := 11) rfl
  have c12 := (hcb).cell (k := 12) rfl
  have c13 := (hcb).cell (k := 13) rfl
  have HA := Lib.hid ha
  have HQ := Lib.hid hqb
  have HB := Lib.hid hcb
  have M0 := h.stp (Stp.cut ha (fun _ => False)) fun _ h => h
  have HM := Lib.hid M0
  have HH := Lib.hid (holder_some 4 x cb mo sm nb es M0 hc hf (ht.stp (Stp.cut ha (fun _ => False)) fun h => h))
  rw [hk] at HH
  have e0 : ((er : Int) != 0) = true := by simp; omega
  have e1 : ¬ er = 0 := by omega
  have HF := Lib.hid fun W => fails_any (er : Int) W
  clear h ha hqb hcb hf hc M0 ht hk he
  go_wp2_with fail
  refine HH.out.mono ?_
  rintro e w9 ⟨rfl, hb9⟩
  have B9 := Lib.hid hb9
  clear hb9 HH
  go_wp2_with fail
  refine (HF.out _).mono ?_
  rintro e w1 ⟨rfl, hb⟩
  have B1 : Hid (Below w0.heap.size w0 w1) := Lib.hid (below_tr B9.out hb B9.out.size)
  have Q1 := Lib.hid (HQ.out.ab B1.out)
  have M1 := Lib.hid (HM.out.stp (Stp.of B1.out (fun _ => False) fun _ _ => rfl) fun _ h => h)
  have S1 : Hid (Stp (fun τ => τ.1 = s) w O w1 (cutTg O w.heap.size)) := Lib.hid ((Stp.cut HA.out _).ab B1.out)
  clear hb HQ HM B1
  go_wp2_with (first
    | (with_reducible refine wpList_storeC (o := ⟨none, .store _ (.tmp 4) (.tmp 19), _, _, _, _⟩) ?_ 40 (.tmp 4) (.tmp 19) ?_ (w.heap.size + 1) ?_ (ansE (er : Int)) ?_ (cs := ansE 0) (t := 40) Q1.out (szAnsE _) ?_ (ansE_one _) ?_
       · rfl
       · rfl
       · rfl
       · rfl
       · rfl
       intro wz hwz
       have QZ : Hid (CbB wz (w.heap.size + 1) 40 (ansE (er : Int))) := Lib.hid (by rw [hwz]; exact CbB.row Q1.out _)
       have FZ : Hid (Fr w1 wz (fun k => k = (w.heap.size + 1))) := Lib.hid (by rw [hwz]; exact fr_rowX _ _ _)
       clear hwz))
  refine bodyPost_ret (ans_results Tryz.results52 _ _ (w.heap.size + 1) (ansE (er : Int)) rfl QZ.out rfl) rfl ?_
  exact DoR.flat (er : Int) 0 0 0 ⟨m, bs, M1.out.stp (Stp.box FZ.out (cutTg_at (Nat.le_succ _))) fun i e => by have := M1.out.pos; injection e with e; omega⟩ (S1.out.fresh FZ.out (Nat.le_succ _))
set_option maxRecDepth 100000 in
set_option maxHeartbeats 1000000 in
theorem id_release_none (h : IdM w O s blocks T m bs) (hc : c.Ok) (hf : fnd bs (c.hd / 4294967296) = none) :
    Calls Tryz.prog 53 #[.pointer (some ⟨s, 0, none⟩), .agg c.cs] w (DoR s blocks w O (errA 7) T) := by
  have ha : Below w.heap.size w ((w.alloc (.cells #[.int .i64 c.kind, .int .u32 (c.ten : Int), .slice c.sec.A c.sec.n c.sec.c, .int .i64 c.quota, .int .i64 c.n, .int .u64 (c.hd : Int), .int .u64 (c.oth : Int), .int .u64 (c.sn : Int), .int .u8 (c.rt : Int), .slice c.oA c.oN c.oC, .slice c.key.A c.key.n c.key.c, .slice c.frm.A c.frm.n c.frm.c, .slice c.upto.A c.upto.n c.upto.c, .bool c.back] 36)).alloc (.cells #[.int .i64 0, .int .u64 0, .int .u64 0, .slice none 0 0, .slice none 0 0, .int .i64 0, .slice none 0 0] 40)) := ((Below.refl _ _).alloc (Nat.le_refl _) _).alloc (by simp) _
  have hcb : CbB ((w.alloc (.cells #[.int .i64 c.kind, .int .u32 (c.ten : Int), .slice c.sec.A c.sec.n c.sec.c, .int .i64 c.quota, .int .i64 c.n, .int .u64 (c.hd : Int), .int .u64 (c.oth : Int), .int .u64 (c.sn : Int), .int .u8 (c.rt : Int), .slice c.oA c.oN c.oC, .slice c.key.A c.key.n c.key.c, .slice c.frm.A c.frm.n c.frm.c, .slice c.upto.A c.upto.n c.upto.c, .bool c.back] 36)).alloc (.cells #[.int .i64 0, .int .u64 0, .int .u64 0, .slice none 0 0, .slice none 0 0, .int .i64 0, .slice none 0 0] 40)) w.heap.size 36 c.cs := (CbB.new w _ _).ab ((Below.refl _ _).alloc (Nat.le_refl _) _)
  have hqb : CbB ((w.alloc (.cells #[.int .i64 c.kind, .int .u32 (c.ten : Int), .slice c.sec.A c.sec.n c.sec.c, .int .i64 c.quota, .int .i64 c.n, .int .u64 (c.hd : Int), .int .u64 (c.oth : Int), .int .u64 (c.sn : Int), .int .u8 (c.rt : Int), .slice c.oA c.oN c.oC, .slice c.key.A c.key.n c.key.c, .slice c.frm.A c.frm.n c.frm.c, .slice c.upto.A c.upto.n c.upto.c, .bool c.back] 36)).alloc (.cells #[.int .i64 0, .int .u64 0, .int .u64 0, .slice none 0 0, .slice none 0 0, .int .i64 0, .slice none 0 0] 40)) (w.heap.size + 1) 40 (ansE 0) := CbB.newI (by simp)
  unfold CallP.cs at hcb ⊢
  go_enter Tryz.func53, Tryz.ntmps53
  go_upto_region 1 with (fail)
  obtain ⟨w0, hw0⟩ : ∃ w0, ((w.alloc (.cells #[.int .i64 c.kind, .int .u32 (c.ten : Int), .slice c.sec.A c.sec.n c.sec.c, .int .i64 c.quota, .int .i64 c.n, .int .u64 (c.hd : Int), .int .u64 (c.oth : Int), .int .u64 (c.sn : Int), .int .u8 (c.rt : Int), .slice c.oA c.oN c.oC, .slice c.key.A c.key.n c.key.c, .slice c.frm.A c.frm.n c.frm.c, .slice c.upto.A c.upto.n c.upto.c, .bool c.back] 36)).alloc (.cells #[.int .i64 0, .int .u64 0, .int .u64 0, .slice none 0 0, .slice none 0 0, .int .i64 0, .slice none 0 0] 40)) = w0 := ⟨_, rfl⟩
  rw [hw0] at ha hcb hqb ⊢
  clear hw0
  have c0 := (hcb).cell (k := 0) rfl
  have c1 := (hcb).cell (k := 1) rfl
  have c2 := (hcb).cell (k := 2) rfl
  have c3 := (hcb).cell (k := 3) rfl
  have c4 := (hcb).cell (k := 4) rfl
  have c5 := (hcb).cell (k := 5) rfl
  have c6 := (hcb).cell (k := 6) rfl
  have c7 := (hcb).cell (k := 7) rfl
  have c8 := (hcb).cell (k := 8) rfl
  have c9 := (hcb).cell (k := 9) rfl
  have c10 := (hcb).cell (k := 10) rfl
  have c11 := (hcb).cell (k := 11) rfl
  have c12 := (hcb).cell (k := 12) rfl
  have c13 := (hcb).cell (k := 13) rfl
  have HA := Lib.hid ha
  have HQ := Lib.hid hqb
  have HB := Lib.hid hcb
  have M0 := h.stp (Stp.cut ha (fun _ => False)) fun _ h => h
  have HM := Lib.hid M0
  have HH := Lib.hid (holder_none 4 M0 hc hf)
  have HF := Lib.hid fun W => fails_any 7 W
  clear h ha hqb hcb hf hc M0
  go_wp2_with fail
  refine HH.out.mono ?_
  rintro e w9 ⟨rfl, hb9⟩
  have B9 := Lib.hid hb9
  clear hb9 HH
  go_wp2_with fail
  refine (HF.out _).mono ?_
  rintro e w1 ⟨rfl, hb⟩
  have B1 : Hid (Below w0.heap.size w0 w1) := Lib.hid (below_tr B9.out hb B9.out.size)
  have Q1 := Lib.hid (HQ.out.ab B1.out)
  have M1 := Lib.hid (HM.out.stp (Stp.of B1.out (fun _ => False) fun _ _ => rfl) fun _ h => h)
  have S1 : Hid (Stp (fun τ => τ.1 = s) w O w1 (cutTg O w.heap.size)) := Lib.hid ((Stp.cut HA.out _).ab B1.out)
  clear hb HQ HM B1
  go_wp2_with (first
    | (with_reducible refine wpList_storeC (o := ⟨none, .store _ (.tmp 4) (.tmp 20), _, _, _, _⟩) ?_ 40 (.tmp 4) (.tmp 20) ?_ (w.heap.size + 1) ?_ (ansE 7) ?_ (cs := ansE 0) (t := 40) Q1.out (szAnsE _) ?_ (ansE_one _) ?_
       · rfl
       · rfl
       · rfl
       · rfl
       · rfl
       intro wz hwz
       have QZ : Hid (CbB wz (w.heap.size + 1) 40 (ansE 7)) := Lib.hid (by rw [hwz]; exact CbB.row Q1.out _)
       have FZ : Hid (Fr w1 wz (fun k => k = (w.heap.size + 1))) := Lib.hid (by rw [hwz]; exact fr_rowX _ _ _)
       clear hwz))
  refine bodyPost_ret (ans_results Tryz.results53 _ _ (w.heap.size + 1) (ansE 7) rfl QZ.out rfl) rfl ?_
  exact DoR.flat 7 0 0 0 ⟨m, bs, M1.out.stp (Stp.box FZ.out (cutTg_at (Nat.le_succ _))) fun i e => by have := M1.out.pos; injection e with e; omega⟩ (S1.out.fresh FZ.out (Nat.le_succ _))
set_option maxRecDepth 100000 in
set_option maxHeartbeats 1000000 in
theorem id_release_deny (x : Nat × TnP) (h : IdM w O s blocks T m bs) (hc : c.Ok) (hf : fnd bs (c.hd / 4294967296) = some x) (er : Nat) (hk : checkH x.2.A (c.hd % 4294967296) 4 = er) (he : 0 < er) :
    Calls Tryz.prog 53 #[.pointer (some ⟨s, 0, none⟩), .agg c.cs] w (DoR s blocks w O (errA er) T) := by
  obtain ⟨cb, mo, sm, nb, es, ht⟩ := h.all x (fnd_mem hf).1
  have ha : Below w.heap.size w ((w.alloc (.cells #[.int .i64 c.kind, .int .u32 (c.ten : Int), .slice c.sec.A c.sec.n c.sec.c, .int .i64 c.quota, .int .i64 c.n, .int .u64 (c.hd : Int), .int .u64 (c.oth : Int), .int .u64 (c.sn : Int), .int .u8 (c.rt : Int), .slice c.oA c.oN c.oC, .slice c.key.A c.key.n c.key.c, .slice c.frm.A c.frm.n c.frm.c, .slice c.upto.A c.upto.n c.upto.c, .bool c.back] 36)).alloc (.cells #[.int .i64 0, .int .u64 0, .int .u64 0, .slice none 0 0, .slice none 0 0, .int .i64 0, .slice none 0 0] 40)) := ((Below.refl _ _).alloc (Nat.le_refl _) _).alloc (by simp) _
  have hcb : CbB ((w.alloc (.cells #[.int .i64 c.kind, .int .u32 (c.ten : Int), .slice c.sec.A c.sec.n c.sec.c, .int .i64 c.quota, .int .i64 c.n, .int .u64 (c.hd : Int), .int .u64 (c.oth : Int), .int .u64 (c.sn : Int), .int .u8 (c.rt : Int), .slice c.oA c.oN c.oC, .slice c.key.A c.key.n c.key.c, .slice c.frm.A c.frm.n c.frm.c, .slice c.upto.A c.upto.n c.upto.c, .bool c.back] 36)).alloc (.cells #[.int .i64 0, .int .u64 0, .int .u64 0, .slice none 0 0, .slice none 0 0, .int .i64 0, .slice none 0 0] 40)) w.heap.size 36 c.cs := (CbB.new w _ _).ab ((Below.refl _ _).alloc (Nat.le_refl _) _)
  have hqb : CbB ((w.alloc (.cells #[.int .i64 c.kind, .int .u32 (c.ten : Int), .slice c.sec.A c.sec.n c.sec.c, .int .i64 c.quota, .int .i64 c.n, .int .u64 (c.hd : Int), .int .u64 (c.oth : Int), .int .u64 (c.sn : Int), .int .u8 (c.rt : Int), .slice c.oA c.oN c.oC, .slice c.key.A c.key.n c.key.c, .slice c.frm.A c.frm.n c.frm.c, .slice c.upto.A c.upto.n c.upto.c, .bool c.back] 36)).alloc (.cells #[.int .i64 0, .int .u64 0, .int .u64 0, .slice none 0 0, .slice none 0 0, .int .i64 0, .slice none 0 0] 40)) (w.heap.size + 1) 40 (ansE 0) := CbB.newI (by simp)
  unfold CallP.cs at hcb ⊢
  go_enter Tryz.func53, Tryz.ntmps53
  go_upto_region 1 with (fail)
  obtain ⟨w0, hw0⟩ : ∃ w0, ((w.alloc (.cells #[.int .i64 c.kind, .int .u32 (c.ten : Int), .slice c.sec.A c.sec.n c.sec.c, .int .i64 c.quota, .int .i64 c.n, .int .u64 (c.hd : Int), .int .u64 (c.oth : Int), .int .u64 (c.sn : Int), .int .u8 (c.rt : Int), .slice c.oA c.oN c.oC, .slice c.key.A c.key.n c.key.c, .slice c.frm.A c.frm.n c.frm.c, .slice c.upto.A c.upto.n c.upto.c, .bool c.back] 36)).alloc (.cells #[.int .i64 0, .int .u64 0, .int .u64 0, .slice none 0 0, .slice none 0 0, .int .i64 0, .slice none 0 0] 40)) = w0 := ⟨_, rfl⟩
  rw [hw0] at ha hcb hqb ⊢
  clear hw0
  have c0 := (hcb).cell (k := 0) rfl
  have c1 := (hcb).cell (k := 1) rfl
  have c2 := (hcb).cell (k := 2) rfl
  have c3 := (hcb).cell (k := 3) rfl
  have c4 := (hcb).cell (k := 4) rfl
  have c5 := (hcb).cell (k := 5) rfl
  have c6 := (hcb).cell (k := 6) rfl
  have c7 := (hcb).cell (k := 7) rfl
  have c8 := (hcb).cell (k := 8) rfl
  have c9 := (hcb).cell (k := 9) rfl
  have c10 := (hcb).cell (k := 10) rfl
  have c11 := (hcb).cell (k := 11) rfl
  have c12 := (hcb).cell (k := 12) rfl
  have c13 := (hcb).cell (k := 13) rfl
  have HA := Lib.hid ha
  have HQ := Lib.hid hqb
  have HB := Lib.hid hcb
  have M0 := h.stp (Stp.cut ha (fun _ => False)) fun _ h => h
  have HM := Lib.hid M0
  have HH := Lib.hid (holder_some 4 x cb mo sm nb es M0 hc hf (ht.stp (Stp.cut ha (fun _ => False)) fun h => h))
  rw [hk] at HH
  have e0 : ((er : Int) != 0) = true := by simp; omega
  have e1 : ¬ er = 0 := by omega
  have HF := Lib.hid fun W => fails_any (er : Int) W
  clear h ha hqb hcb hf hc M0 ht hk he
  go_wp2_with fail
  refine HH.out.mono ?_
  rintro e w9 ⟨rfl, hb9⟩
  have B9 := Lib.hid hb9
  clear hb9 HH
  go_wp2_with fail
  refine (HF.out _).mono ?_
  rintro e w1 ⟨rfl, hb⟩
  have B1 : Hid (Below w0.heap.size w0 w1) := Lib.hid (below_tr B9.out hb B9.out.size)
  have Q1 := Lib.hid (HQ.out.ab B1.out)
  have M1 := Lib.hid (HM.out.stp (Stp.of B1.out (fun _ => False) fun _ _ => rfl) fun _ h => h)
  have S1 : Hid (Stp (fun τ => τ.1 = s) w O w1 (cutTg O w.heap.size)) := Lib.hid ((Stp.cut HA.out _).ab B1.out)
  clear hb HQ HM B1
  go_wp2_with (first
    | (with_reducible refine wpList_storeC (o := ⟨none, .store _ (.tmp 4) (.tmp 20), _, _, _, _⟩) ?_ 40 (.tmp 4) (.tmp 20) ?_ (w.heap.size + 1) ?_ (ansE (er : Int)) ?_ (cs := ansE 0) (t := 40) Q1.out (szAnsE _) ?_ (ansE_one _) ?_
       · rfl
       · rfl
       · rfl
       · rfl
       · rfl
       intro wz hwz
       have QZ : Hid (CbB wz (w.heap.size + 1) 40 (ansE (er : Int))) := Lib.hid (by rw [hwz]; exact CbB.row Q1.out _)
       have FZ : Hid (Fr w1 wz (fun k => k = (w.heap.size + 1))) := Lib.hid (by rw [hwz]; exact fr_rowX _ _ _)
       clear hwz))
  refine bodyPost_ret (ans_results Tryz.results53 _ _ (w.heap.size + 1) (ansE (er : Int)) rfl QZ.out rfl) rfl ?_
  exact DoR.flat (er : Int) 0 0 0 ⟨m, bs, M1.out.stp (Stp.box FZ.out (cutTg_at (Nat.le_succ _))) fun i e => by have := M1.out.pos; injection e with e; omega⟩ (S1.out.fresh FZ.out (Nat.le_succ _))
set_option maxRecDepth 100000 in
set_option maxHeartbeats 1000000 in
theorem id_usage_none (h : IdM w O s blocks T m bs) (hc : c.Ok) (hf : fnd bs (c.hd / 4294967296) = none) :
    Calls Tryz.prog 54 #[.pointer (some ⟨s, 0, none⟩), .agg c.cs] w (DoR s blocks w O (errA 7) T) := by
  have ha : Below w.heap.size w ((w.alloc (.cells #[.int .i64 c.kind, .int .u32 (c.ten : Int), .slice c.sec.A c.sec.n c.sec.c, .int .i64 c.quota, .int .i64 c.n, .int .u64 (c.hd : Int), .int .u64 (c.oth : Int), .int .u64 (c.sn : Int), .int .u8 (c.rt : Int), .slice c.oA c.oN c.oC, .slice c.key.A c.key.n c.key.c, .slice c.frm.A c.frm.n c.frm.c, .slice c.upto.A c.upto.n c.upto.c, .bool c.back] 36)).alloc (.cells #[.int .i64 0, .int .u64 0, .int .u64 0, .slice none 0 0, .slice none 0 0, .int .i64 0, .slice none 0 0] 40)) := ((Below.refl _ _).alloc (Nat.le_refl _) _).alloc (by simp) _
  have hcb : CbB ((w.alloc (.cells #[.int .i64 c.kind, .int .u32 (c.ten : Int), .slice c.sec.A c.sec.n c.sec.c, .int .i64 c.quota, .int .i64 c.n, .int .u64 (c.hd : Int), .int .u64 (c.oth : Int), .int .u64 (c.sn : Int), .int .u8 (c.rt : Int), .slice c.oA c.oN c.oC, .slice c.key.A c.key.n c.key.c, .slice c.frm.A c.frm.n c.frm.c, .slice c.upto.A c.upto.n c.upto.c, .bool c.back] 36)).alloc (.cells #[.int .i64 0, .int .u64 0, .int .u64 0, .slice none 0 0, .slice none 0 0, .int .i64 0, .slice none 0 0] 40)) w.heap.size 36 c.cs := (CbB.new w _ _).ab ((Below.refl _ _).alloc (Nat.le_refl _) _)
  have hqb : CbB ((w.alloc (.cells #[.int .i64 c.kind, .int .u32 (c.ten : Int), .slice c.sec.A c.sec.n c.sec.c, .int .i64 c.quota, .int .i64 c.n, .int .u64 (c.hd : Int), .int .u64 (c.oth : Int), .int .u64 (c.sn : Int), .int .u8 (c.rt : Int), .slice c.oA c.oN c.oC, .slice c.key.A c.key.n c.key.c, .slice c.frm.A c.frm.n c.frm.c, .slice c.upto.A c.upto.n c.upto.c, .bool c.back] 36)).alloc (.cells #[.int .i64 0, .int .u64 0, .int .u64 0, .slice none 0 0, .slice none 0 0, .int .i64 0, .slice none 0 0] 40)) (w.heap.size + 1) 40 (ansE 0) := CbB.newI (by simp)
  unfold CallP.cs at hcb ⊢
  go_enter Tryz.func54, Tryz.ntmps54
  go_upto_region 1 with (fail)
  obtain ⟨w0, hw0⟩ : ∃ w0, ((w.alloc (.cells #[.int .i64 c.kind, .int .u32 (c.ten : Int), .slice c.sec.A c.sec.n c.sec.c, .int .i64 c.quota, .int .i64 c.n, .int .u64 (c.hd : Int), .int .u64 (c.oth : Int), .int .u64 (c.sn : Int), .int .u8 (c.rt : Int), .slice c.oA c.oN c.oC, .slice c.key.A c.key.n c.key.c, .slice c.frm.A c.frm.n c.frm.c, .slice c.upto.A c.upto.n c.upto.c, .bool c.back] 36)).alloc (.cells #[.int .i64 0, .int .u64 0, .int .u64 0, .slice none 0 0, .slice none 0 0, .int .i64 0, .slice none 0 0] 40)) = w0 := ⟨_, rfl⟩
  rw [hw0] at ha hcb hqb ⊢
  clear hw0
  have c0 := (hcb).cell (k := 0) rfl
  have c1 := (hcb).cell (k := 1) rfl
  have c2 := (hcb).cell (k := 2) rfl
  have c3 := (hcb).cell (k := 3) rfl
  have c4 := (hcb).cell (k := 4) rfl
  have c5 := (hcb).cell (k := 5) rfl
  have c6 := (hcb).cell (k := 6) rfl
  have c7 := (hcb).cell (k := 7) rfl
  have c8 := (hcb).cell (k := 8) rfl
  have c9 := (hcb).cell (k := 9) rfl
  have c10 := (hcb).cell (k := 10) rfl
  have c11 := (hcb).cell (k := 11) rfl
  have c12 := (hcb).cell (k := 12) rfl
  have c13 := (hcb).cell (k := 13) rfl
  have HA := Lib.hid ha
  have HQ := Lib.hid hqb
  have HB := Lib.hid hcb
  have M0 := h.stp (Stp.cut ha (fun _ => False)) fun _ h => h
  have HM := Lib.hid M0
  have HH := Lib.hid (holder_none 1 M0 hc hf)
  have HF := Lib.hid fun W => fails_any 7 W
  clear h ha hqb hcb hf hc M0
  go_wp2_with fail
  refine HH.out.mono ?_
  rintro e w9 ⟨rfl, hb9⟩
  have B9 := Lib.hid hb9
  clear hb9 HH
  go_wp2_with fail
  refine (HF.out _).mono ?_
  rintro e w1 ⟨rfl, hb⟩
  have B1 : Hid (Below w0.heap.size w0 w1) := Lib.hid (below_tr B9.out hb B9.out.size)
  have Q1 := Lib.hid (HQ.out.ab B1.out)
  have M1 := Lib.hid (HM.out.stp (Stp.of B1.out (fun _ => False) fun _ _ => rfl) fun _ h => h)
  have S1 : Hid (Stp (fun τ => τ.1 = s) w O w1 (cutTg O w.heap.size)) := Lib.hid ((Stp.cut HA.out _).ab B1.out)
  clear hb HQ HM B1
  go_wp2_with (first
    | (with_reducible refine wpList_storeC (o := ⟨none, .store _ (.tmp 4) (.tmp 21), _, _, _, _⟩) ?_ 40 (.tmp 4) (.tmp 21) ?_ (w.heap.size + 1) ?_ (ansE 7) ?_ (cs := ansE 0) (t := 40) Q1.out (szAnsE _) ?_ (ansE_one _) ?_
       · rfl
       · rfl
       · rfl
       · rfl
       · rfl
       intro wz hwz
       have QZ : Hid (CbB wz (w.heap.size + 1) 40 (ansE 7)) := Lib.hid (by rw [hwz]; exact CbB.row Q1.out _)
       have FZ : Hid (Fr w1 wz (fun k => k = (w.heap.size + 1))) := Lib.hid (by rw [hwz]; exact fr_rowX _ _ _)
       clear hwz))
  refine bodyPost_ret (ans_results Tryz.results54 _ _ (w.heap.size + 1) (ansE 7) rfl QZ.out rfl) rfl ?_
  exact DoR.flat 7 0 0 0 ⟨m, bs, M1.out.stp (Stp.box FZ.out (cutTg_at (Nat.le_succ _))) fun i e => by have := M1.out.pos; injection e with e; omega⟩ (S1.out.fresh FZ.out (Nat.le_succ _))
set_option maxRecDepth 100000 in
set_option maxHeartbeats 1000000 in
theorem id_usage_deny (x : Nat × TnP) (h : IdM w O s blocks T m bs) (hc : c.Ok) (hf : fnd bs (c.hd / 4294967296) = some x) (er : Nat) (hk : checkH x.2.A (c.hd % 4294967296) 1 = er) (he : 0 < er) :
    Calls Tryz.prog 54 #[.pointer (some ⟨s, 0, none⟩), .agg c.cs] w (DoR s blocks w O (errA er) T) := by
  obtain ⟨cb, mo, sm, nb, es, ht⟩ := h.all x (fnd_mem hf).1
  have ha : Below w.heap.size w ((w.alloc (.cells #[.int .i64 c.kind, .int .u32 (c.ten : Int), .slice c.sec.A c.sec.n c.sec.c, .int .i64 c.quota, .int .i64 c.n, .int .u64 (c.hd : Int), .int .u64 (c.oth : Int), .int .u64 (c.sn : Int), .int .u8 (c.rt : Int), .slice c.oA c.oN c.oC, .slice c.key.A c.key.n c.key.c, .slice c.frm.A c.frm.n c.frm.c, .slice c.upto.A c.upto.n c.upto.c, .bool c.back] 36)).alloc (.cells #[.int .i64 0, .int .u64 0, .int .u64 0, .slice none 0 0, .slice none 0 0, .int .i64 0, .slice none 0 0] 40)) := ((Below.refl _ _).alloc (Nat.le_refl _) _).alloc (by simp) _
  have hcb : CbB ((w.alloc (.cells #[.int .i64 c.kind, .int .u32 (c.ten : Int), .slice c.sec.A c.sec.n c.sec.c, .int .i64 c.quota, .int .i64 c.n, .int .u64 (c.hd : Int), .int .u64 (c.oth : Int), .int .u64 (c.sn : Int), .int .u8 (c.rt : Int), .slice c.oA c.oN c.oC, .slice c.key.A c.key.n c.key.c, .slice c.frm.A c.frm.n c.frm.c, .slice c.upto.A c.upto.n c.upto.c, .bool c.back] 36)).alloc (.cells #[.int .i64 0, .int .u64 0, .int .u64 0, .slice none 0 0, .slice none 0 0, .int .i64 0, .slice none 0 0] 40)) w.heap.size 36 c.cs := (CbB.new w _ _).ab ((Below.refl _ _).alloc (Nat.le_refl _) _)
  have hqb : CbB ((w.alloc (.cells #[.int .i64 c.kind, .int .u32 (c.ten : Int), .slice c.sec.A c.sec.n c.sec.c, .int .i64 c.quota, .int .i64 c.n, .int .u64 (c.hd : Int), .int .u64 (c.oth : Int), .int .u64 (c.sn : Int), .int .u8 (c.rt : Int), .slice c.oA c.oN c.oC, .slice c.key.A c.key.n c.key.c, .slice c.frm.A c.frm.n c.frm.c, .slice c.upto.A c.upto.n c.upto.c, .bool c.back] 36)).alloc (.cells #[.int .i64 0, .int .u64 0, .int .u64 0, .slice none 0 0, .slice none 0 0, .int .i64 0, .slice none 0 0] 40)) (w.heap.size + 1) 40 (ansE 0) := CbB.newI (by simp)
  unfold CallP.cs at hcb ⊢
  go_enter Tryz.func54, Tryz.ntmps54
  go_upto_region 1 with (fail)
  obtain ⟨w0, hw0⟩ : ∃ w0, ((w.alloc (.cells #[.int .i64 c.kind, .int .u32 (c.ten : Int), .slice c.sec.A c.sec.n c.sec.c, .int .i64 c.quota, .int .i64 c.n, .int .u64 (c.hd : Int), .int .u64 (c.oth : Int), .int .u64 (c.sn : Int), .int .u8 (c.rt : Int), .slice c.oA c.oN c.oC, .slice c.key.A c.key.n c.key.c, .slice c.frm.A c.frm.n c.frm.c, .slice c.upto.A c.upto.n c.upto.c, .bool c.back] 36)).alloc (.cells #[.int .i64 0, .int .u64 0, .int .u64 0, .slice none 0 0, .slice none 0 0, .int .i64 0, .slice none 0 0] 40)) = w0 := ⟨_, rfl⟩
  rw [hw0] at ha hcb hqb ⊢
  clear hw0
  have c0 := (hcb).cell (k := 0) rfl
  have c1 := (hcb).cell (k := 1) rfl
  have c2 := (hcb).cell (k := 2) rfl
  have c3 := (hcb).cell (k := 3) rfl
  have c4 := (hcb).cell (k := 4) rfl
  have c5 := (hcb).cell (k := 5) rfl
  have c6 := (hcb).cell (k := 6) rfl
  have c7 := (hcb).cell (k := 7) rfl
  have c8 := (hcb).cell (k := 8) rfl
  have c9 := (hcb).cell (k := 9) rfl
  have c10 := (hcb).cell (k := 10) rfl
  have c11 := (hcb).cell (k := 11) rfl
  have c12 := (hcb).cell (k := 12) rfl
  have c13 := (hcb).cell (k := 13) rfl
  have HA := Lib.hid ha
  have HQ := Lib.hid hqb
  have HB := Lib.hid hcb
  have M0 := h.stp (Stp.cut ha (fun _ => False)) fun _ h => h
  have HM := Lib.hid M0
  have HH := Lib.hid (holder_some 1 x cb mo sm nb es M0 hc hf (ht.stp (Stp.cut ha (fun _ => False)) fun h => h))
  rw [hk] at HH
  have e0 : ((er : Int) != 0) = true := by simp; omega
  have e1 : ¬ er = 0 := by omega
  have HF := Lib.hid fun W => fails_any (er : Int) W
  clear h ha hqb hcb hf hc M0 ht hk he
  go_wp2_with fail
  refine HH.out.mono ?_
  rintro e w9 ⟨rfl, hb9⟩
  have B9 := Lib.hid hb9
  clear hb9 HH
  go_wp2_with fail
  refine (HF.out _).mono ?_
  rintro e w1 ⟨rfl, hb⟩
  have B1 : Hid (Below w0.heap.size w0 w1) := Lib.hid (below_tr B9.out hb B9.out.size)
  have Q1 := Lib.hid (HQ.out.ab B1.out)
  have M1 := Lib.hid (HM.out.stp (Stp.of B1.out (fun _ => False) fun _ _ => rfl) fun _ h => h)
  have S1 : Hid (Stp (fun τ => τ.1 = s) w O w1 (cutTg O w.heap.size)) := Lib.hid ((Stp.cut HA.out _).ab B1.out)
  clear hb HQ HM B1
  go_wp2_with (first
    | (with_reducible refine wpList_storeC (o := ⟨none, .store _ (.tmp 4) (.tmp 21), _, _, _, _⟩) ?_ 40 (.tmp 4) (.tmp 21) ?_ (w.heap.size + 1) ?_ (ansE (er : Int)) ?_ (cs := ansE 0) (t := 40) Q1.out (szAnsE _) ?_ (ansE_one _) ?_
       · rfl
       · rfl
       · rfl
       · rfl
       · rfl
       intro wz hwz
       have QZ : Hid (CbB wz (w.heap.size + 1) 40 (ansE (er : Int))) := Lib.hid (by rw [hwz]; exact CbB.row Q1.out _)
       have FZ : Hid (Fr w1 wz (fun k => k = (w.heap.size + 1))) := Lib.hid (by rw [hwz]; exact fr_rowX _ _ _)
       clear hwz))
  refine bodyPost_ret (ans_results Tryz.results54 _ _ (w.heap.size + 1) (ansE (er : Int)) rfl QZ.out rfl) rfl ?_
  exact DoR.flat (er : Int) 0 0 0 ⟨m, bs, M1.out.stp (Stp.box FZ.out (cutTg_at (Nat.le_succ _))) fun i e => by have := M1.out.pos; injection e with e; omega⟩ (S1.out.fresh FZ.out (Nat.le_succ _))
end
end Go.Proofs.YtnnjmelibmiimaaGreat
