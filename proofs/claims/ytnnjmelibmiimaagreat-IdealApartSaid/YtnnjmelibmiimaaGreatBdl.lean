/-
  IDEAL: get: the walks.
-/
import Derived.Test.YtnnjmelibmiimaaGreatBdk
import Derived.Test.YtnnjmelibmiimaaGreatRows
import Derived.WalkKit
import Derived.WalkSpells
import Derived.WalkLawsBesides
import Derived.Lib.Hide
import Derived.Lib.SlBytesConst
import Derived.Test.YtnnjmelibmiimaaGreatBda
import Derived.Deep.Slices
import Derived.Deep.QuietTactic
import Derived.BigQuiet
import Derived.OneCell
import Derived.Deep.RegionWith
namespace Go.Proofs.YtnnjmelibmiimaaGreat
open Go.RowKit
set_option linter.unusedVariables false
set_option linter.unusedSimpArgs false

section
variable {w : World} {O : Tg} {s blocks m : Nat} {T : List TnP} {bs : List (Nat × TnP)} {c : CallP}
set_option maxRecDepth 100000 in
set_option maxHeartbeats 1000000 in
theorem id_get_short (x : Nat × TnP) (h : IdM w O s blocks T m bs) (hc : c.Ok) (hf : fnd bs (c.hd / 4294967296) = some x) (hk : checkH x.2.A (c.hd % 4294967296) 1 = 0) (hn : c.key.n = 0) :
    Calls Tryz.prog 50 #[.pointer (some ⟨s, 0, none⟩), .agg c.cs] w (DoR s blocks w O (errA 2) T) := by
  obtain ⟨cb, mo, sm, nb, es, ht⟩ := h.all x (fnd_mem hf).1
  have n1 : ((c.key.n : Int) == 0) = true := by rw [hn]; rfl
  clear hn
  have ha : Below w.heap.size w ((w.alloc (.cells #[.int .i64 c.kind, .int .u32 (c.ten : Int), .slice c.sec.A c.sec.n c.sec.c, .int .i64 c.quota, .int .i64 c.n, .int .u64 (c.hd : Int), .int .u64 (c.oth : Int), .int .u64 (c.sn : Int), .int .u8 (c.rt : Int), .slice c.oA c.oN c.oC, .slice c.key.A c.key.n c.key.c, .slice c.frm.A c.frm.n c.frm.c, .slice c.upto.A c.upto.n c.upto.c, .bool c.back] 36)).alloc (.cells #[.int .i64 0, .int .u64 0, .int .u64 0, .slice none 0 0, .slice none 0 0, .int .i64 0, .slice none 0 0] 40)) := ((Below.refl _ _).alloc (Nat.le_refl _) _).alloc (by simp) _
  have hcb : CbB ((w.alloc (.cells #[.int .i64 c.kind, .int .u32 (c.ten : Int), .slice c.sec.A c.sec.n c.sec.c, .int .i64 c.quota, .int .i64 c.n, .int .u64 (c.hd : Int), .int .u64 (c.oth : Int), .int .u64 (c.sn : Int), .int .u8 (c.rt : Int), .slice c.oA c.oN c.oC, .slice c.key.A c.key.n c.key.c, .slice c.frm.A c.frm.n c.frm.c, .slice c.upto.A c.upto.n c.upto.c, .bool c.back] 36)).alloc (.cells #[.int .i64 0, .int .u64 0, .int .u64 0, .slice none 0 0, .slice none 0 0, .int .i64 0, .slice none 0 0] 40)) w.heap.size 36 c.cs := (CbB.new w _ _).ab ((Below.refl _ _).alloc (Nat.le_refl _) _)
  have hqb : CbB ((w.alloc (.cells #[.int .i64 c.kind, .int .u32 (c.ten : Int), .slice c.sec.A c.sec.n c.sec.c, .int .i64 c.quota, .int .i64 c.n, .int .u64 (c.hd : Int), .int .u64 (c.oth : Int), .int .u64 (c.sn : Int), .int .u8 (c.rt : Int), .slice c.oA c.oN c.oC, .slice c.key.A c.key.n c.key.c, .slice c.frm.A c.frm.n c.frm.c, .slice c.upto.A c.upto.n c.upto.c, .bool c.back] 36)).alloc (.cells #[.int .i64 0, .int .u64 0, .int .u64 0, .slice none 0 0, .slice none 0 0, .int .i64 0, .slice none 0 0] 40)) (w.heap.size + 1) 40 (ansE 0) := CbB.newI (by simp)
  unfold CallP.cs at hcb ⊢
  go_enter Tryz.func50, Tryz.ntmps50
  go_upto_region 1 with (fail)
  obtain ⟨w0, hw0⟩ : ∃ w0, ((w.alloc (.cells #[.int .i64 c.kind, .int .u32 (c.ten : Int), .slice c.sec.A c.sec.n c.sec.c, .int .i64 c.quota, .int .i64 c.n, .int .u64 (c.hd : Int), .int .u64 (c.oth : Int), .int .u64 (c.sn : Int), .int .u8 (c.rt : Int), .slice c.oA c.oN c.oC, .slice c.key.A c.key.n c.key.c, .slice c.frm.A c.frm.n c.frm.c, .slice c.upto.A c.upto.n c.upto.c, .bool c.back] 36)).alloc (.cells #[.int .i64 0, .int .u64 0, .int .u64 0, .slice none 0 0, .slice none 0 0, .int .i64 0, .slice none 0 0] 40)) = w0 := ⟨_, rfl⟩
  rw [hw0] at ha hcb hqb ⊢
  clear hw0
  have c0 := (hcb).cell (k := 0) rfl
  have c1 := (hcb).cell (k := 1) rfl
  have c2 := (hcb).cell (k := 2) rfl
  have c3 := (hcb).cell (k := 3) rfl
  have c4 := (hcb).cell (k := 4) rfl
  have c5 := (hcb).cell (k := 5) rfl
  have c6 := (hcb).cell (k := 6) rfl
  have c7 := (hcb).cell (k := 7) rfl
  have c8 := (hcb).cell (k := 8) rfl
  have c9 := (hcb).cell (k := 9) rfl
  have c10 := (hcb).cell (k := 10) rfl
  have c11 := (hcb).cell (k := 11) rfl
  have c12 := (hcb).cell (k := 12) rfl
  have c13 := (hcb).cell (k := 13) rfl
  have HA := Lib.hid ha
  have HQ := Lib.hid hqb
  have HB := Lib.hid hcb
  have M0 := h.stp (Stp.cut ha (fun _ => False)) fun _ h => h
  have HM := Lib.hid M0
  have T0 := ht.stp (Stp.cut ha (fun _ => False)) fun h => h
  have HT := Lib.hid T0
  have HH := Lib.hid (holder_some 1 x cb mo sm nb es M0 hc hf T0)
  rw [hk] at HH
  have CO := Lib.hid hc
  have HFN := Lib.hid hf
  have HF := Lib.hid fun W => fails_any 2 W
  clear h ha hqb hcb hf hc M0 T0 ht hk
  go_wp2_with fail
  refine HH.out.mono ?_
  rintro e w9 ⟨rfl, hb9⟩
  have B9 := Lib.hid hb9
  clear hb9 HH
  have q10 := (HB.out.ab B9.out).cell (k := 10) rfl
  go_wp2_with fail
  refine (HF.out _).mono ?_
  rintro e w1 ⟨rfl, hb⟩
  have B1 : Hid (Below w0.heap.size w0 w1) := Lib.hid (below_tr B9.out hb B9.out.size)
  have Q1 := Lib.hid (HQ.out.ab B1.out)
  have M1 := Lib.hid (HM.out.stp (Stp.of B1.out (fun _ => False) fun _ _ => rfl) fun _ h => h)
  have S1 : Hid (Stp (fun τ => τ.1 = s) w O w1 (cutTg O w.heap.size)) := Lib.hid ((Stp.cut HA.out _).ab B1.out)
  clear hb HQ HM B1
  go_wp2_with (first
    | (with_reducible refine wpList_storeC (o := ⟨none, .store _ (.tmp 4) (.tmp 34), _, _, _, _⟩) ?_ 40 (.tmp 4) (.tmp 34) ?_ (w.heap.size + 1) ?_ (ansE 2) ?_ (cs := ansE 0) (t := 40) Q1.out (szAnsE _) ?_ (ansE_one _) ?_
       · rfl
       · rfl
       · rfl
       · rfl
       · rfl
       intro wz hwz
       have QZ : Hid (CbB wz (w.heap.size + 1) 40 (ansE 2)) := Lib.hid (by rw [hwz]; exact CbB.row Q1.out _)
       have FZ : Hid (Fr w1 wz (fun k => k = (w.heap.size + 1))) := Lib.hid (by rw [hwz]; exact fr_rowX _ _ _)
       clear hwz))
  refine bodyPost_ret (ans_results Tryz.results50 _ _ (w.heap.size + 1) (ansE 2) rfl QZ.out rfl) rfl ?_
  exact DoR.flat 2 0 0 0 ⟨m, bs, M1.out.stp (Stp.box FZ.out (cutTg_at (Nat.le_succ _))) fun i e => by have := M1.out.pos; injection e with e; omega⟩ (S1.out.fresh FZ.out (Nat.le_succ _))
set_option maxRecDepth 100000 in
set_option maxHeartbeats 1000000 in
theorem id_get_long (x : Nat × TnP) (h : IdM w O s blocks T m bs) (hc : c.Ok) (hf : fnd bs (c.hd / 4294967296) = some x) (hk : checkH x.2.A (c.hd % 4294967296) 1 = 0) (hn : 32 < c.key.n) :
    Calls Tryz.prog 50 #[.pointer (some ⟨s, 0, none⟩), .agg c.cs] w (DoR s blocks w O (errA 2) T) := by
  obtain ⟨cb, mo, sm, nb, es, ht⟩ := h.all x (fnd_mem hf).1
  have n1 : ((c.key.n : Int) == 0) = false := by simp; omega
  have n2 : decide ((32 : Int) < (c.key.n : Int)) = true := by simp; omega
  clear hn
  have ha : Below w.heap.size w ((w.alloc (.cells #[.int .i64 c.kind, .int .u32 (c.ten : Int), .slice c.sec.A c.sec.n c.sec.c, .int .i64 c.quota, .int .i64 c.n, .int .u64 (c.hd : Int), .int .u64 (c.oth : Int), .int .u64 (c.sn : Int), .int .u8 (c.rt : Int), .slice c.oA c.oN c.oC, .slice c.key.A c.key.n c.key.c, .slice c.frm.A c.frm.n c.frm.c, .slice c.upto.A c.upto.n c.upto.c, .bool c.back] 36)).alloc (.cells #[.int .i64 0, .int .u64 0, .int .u64 0, .slice none 0 0, .slice none 0 0, .int .i64 0, .slice none 0 0] 40)) := ((Below.refl _ _).alloc (Nat.le_refl _) _).alloc (by simp) _
  have hcb : CbB ((w.alloc (.cells #[.int .i64 c.kind, .int .u32 (c.ten : Int), .slice c.sec.A c.sec.n c.sec.c, .int .i64 c.quota, .int .i64 c.n, .int .u64 (c.hd : Int), .int .u64 (c.oth : Int), .int .u64 (c.sn : Int), .int .u8 (c.rt : Int), .slice c.oA c.oN c.oC, .slice c.key.A c.key.n c.key.c, .slice c.frm.A c.frm.n c.frm.c, .slice c.upto.A c.upto.n c.upto.c, .bool c.back] 36)).alloc (.cells #[.int .i64 0, .int .u64 0, .int .u64 0, .slice none 0 0, .slice none 0 0, .int .i64 0, .slice none 0 0] 40)) w.heap.size 36 c.cs := (CbB.new w _ _).ab ((Below.refl _ _).alloc (Nat.le_refl _) _)
  have hqb : CbB ((w.alloc (.cells #[.int .i64 c.kind, .int .u32 (c.ten : Int), .slice c.sec.A c.sec.n c.sec.c, .int .i64 c.quota, .int .i64 c.n, .int .u64 (c.hd : Int), .int .u64 (c.oth : Int), .int .u64 (c.sn : Int), .int .u8 (c.rt : Int), .slice c.oA c.oN c.oC, .slice c.key.A c.key.n c.key.c, .slice c.frm.A c.frm.n c.frm.c, .slice c.upto.A c.upto.n c.upto.c, .bool c.back] 36)).alloc (.cells #[.int .i64 0, .int .u64 0, .int .u64 0, .slice none 0 0, .slice none 0 0, .int .i64 0, .slice none 0 0] 40)) (w.heap.size + 1) 40 (ansE 0) := CbB.newI (by simp)
  unfold CallP.cs at hcb ⊢
  go_enter Tryz.func50, Tryz.ntmps50
  go_upto_region 1 with (fail)
  obtain ⟨w0, hw0⟩ : ∃ w0, ((w.alloc (.cells #[.int .i64 c.kind, .int .u32 (c.ten : Int), .slice c.sec.A c.sec.n c.sec.c, .int .i64 c.quota, .int .i64 c.n, .int .u64 (c.hd : Int), .int .u64 (c.oth : Int), .int .u64 (c.sn : Int), .int .u8 (c.rt : Int), .slice c.oA c.oN c.oC, .slice c.key.A c.key.n c.key.c, .slice c.frm.A c.frm.n c.frm.c, .slice c.upto.A c.upto.n c.upto.c, .bool c.back] 36)).alloc (.cells #[.int .i64 0, .int .u64 0, .int .u64 0, .slice none 0 0, .slice none 0 0, .int .i64 0, .slice none 0 0] 40)) = w0 := ⟨_, rfl⟩
  rw [hw0] at ha hcb hqb ⊢
  clear hw0
  have c0 := (hcb).cell (k := 0) rfl
  have c1 := (hcb).cell (k := 1) rfl
  have c2 := (hcb).cell (k := 2) rfl
  have c3 := (hcb).cell (k := 3) rfl
  have c4 := (hcb).cell (k := 4) rfl
  have c5 := (hcb).cell (k := 5) rfl
  have c6 := (hcb).cell (k := 6) rfl
  have c7 := (hcb).cell (k := 7) rfl
  have c8 := (hcb).cell (k := 8) rfl
  have c9 := (hcb).cell (k := 9) rfl
  have c10 := (hcb).cell (k := 10) rfl
  have c11 := (hcb).cell (k := 11) rfl
  have c12 := (hcb).cell (k := 12) rfl
  have c13 := (hcb).cell (k := 13) rfl
  have HA := Lib.hid ha
  have HQ := Lib.hid hqb
  have HB := Lib.hid hcb
  have M0 := h.stp (Stp.cut ha (fun _ => False)) fun _ h => h
  have HM := Lib.hid M0
  have T0 := ht.stp (Stp.cut ha (fun _ => False)) fun h => h
  have HT := Lib.hid T0
  have HH := Lib.hid (holder_some 1 x cb mo sm nb es M0 hc hf T0)
  rw [hk] at HH
  have CO := Lib.hid hc
  have HFN := Lib.hid hf
  have HF := Lib.hid fun W => fails_any 2 W
  clear h ha hqb hcb hf hc M0 T0 ht hk
  go_wp2_with fail
  refine HH.out.mono ?_
  rintro e w9 ⟨rfl, hb9⟩
  have B9 := Lib.hid hb9
  clear hb9 HH
  have q10 := (HB.out.ab B9.out).cell (k := 10) rfl
  go_wp2_with fail
  refine (HF.out _).mono ?_
  rintro e w1 ⟨rfl, hb⟩
  have B1 : Hid (Below w0.heap.size w0 w1) := Lib.hid (below_tr B9.out hb B9.out.size)
  have Q1 := Lib.hid (HQ.out.ab B1.out)
  have M1 := Lib.hid (HM.out.stp (Stp.of B1.out (fun _ => False) fun _ _ => rfl) fun _ h => h)
  have S1 : Hid (Stp (fun τ => τ.1 = s) w O w1 (cutTg O w.heap.size)) := Lib.hid ((Stp.cut HA.out _).ab B1.out)
  clear hb HQ HM B1
  go_wp2_with (first
    | (with_reducible refine wpList_storeC (o := ⟨none, .store _ (.tmp 4) (.tmp 34), _, _, _, _⟩) ?_ 40 (.tmp 4) (.tmp 34) ?_ (w.heap.size + 1) ?_ (ansE 2) ?_ (cs := ansE 0) (t := 40) Q1.out (szAnsE _) ?_ (ansE_one _) ?_
       · rfl
       · rfl
       · rfl
       · rfl
       · rfl
       intro wz hwz
       have QZ : Hid (CbB wz (w.heap.size + 1) 40 (ansE 2)) := Lib.hid (by rw [hwz]; exact CbB.row Q1.out _)
       have FZ : Hid (Fr w1 wz (fun k => k = (w.heap.size + 1))) := Lib.hid (by rw [hwz]; exact fr_rowX _ _ _)
       clear hwz))
  refine bodyPost_ret (ans_results Tryz.results50 _ _ (w.heap.size + 1) (ansE 2) rfl QZ.out rfl) rfl ?_
  exact DoR.flat 2 0 0 0 ⟨m, bs, M1.out.stp (Stp.box FZ.out (cutTg_at (Nat.le_succ _))) fun i e => by have := M1.out.pos; injection e with e; omega⟩ (S1.out.fresh FZ.out (Nat.le_succ _))
set_option maxRecDepth 100000 in
set_option maxHeartbeats 1000000 in
theorem id_get_snap (x : Nat × TnP) (h : IdM w O s blocks T m bs) (hc : c.Ok) (hf : fnd bs (c.hd / 4294967296) = some x) (hk : checkH x.2.A (c.hd % 4294967296) 1 = 0) (hn : 1 ≤ c.key.n ∧ c.key.n ≤ 32) (hs : seenP x.2 c.sn = none) :
    Calls Tryz.prog 50 #[.pointer (some ⟨s, 0, none⟩), .agg c.cs] w (DoR s blocks w O (errA 262) T) := by
  obtain ⟨cb, mo, sm, nb, es, ht⟩ := h.all x (fnd_mem hf).1
  have n1 : ((c.key.n : Int) == 0) = false := by simp; omega
  have n2 : decide ((32 : Int) < (c.key.n : Int)) = false := by simp; omega
  have n3 : ¬ c.key.n = 0 := by omega
  have n4 : ¬ 32 < c.key.n := by omega
  clear hn
  have ha : Below w.heap.size w ((w.alloc (.cells #[.int .i64 c.kind, .int .u32 (c.ten : Int), .slice c.sec.A c.sec.n c.sec.c, .int .i64 c.quota, .int .i64 c.n, .int .u64 (c.hd : Int), .int .u64 (c.oth : Int), .int .u64 (c.sn : Int), .int .u8 (c.rt : Int), .slice c.oA c.oN c.oC, .slice c.key.A c.key.n c.key.c, .slice c.frm.A c.frm.n c.frm.c, .slice c.upto.A c.upto.n c.upto.c, .bool c.back] 36)).alloc (.cells #[.int .i64 0, .int .u64 0, .int .u64 0, .slice none 0 0, .slice none 0 0, .int .i64 0, .slice none 0 0] 40)) := ((Below.refl _ _).alloc (Nat.le_refl _) _).alloc (by simp) _
  have hcb : CbB ((w.alloc (.cells #[.int .i64 c.kind, .int .u32 (c.ten : Int), .slice c.sec.A c.sec.n c.sec.c, .int .i64 c.quota, .int .i64 c.n, .int .u64 (c.hd : Int), .int .u64 (c.oth : Int), .int .u64 (c.sn : Int), .int .u8 (c.rt : Int), .slice c.oA c.oN c.oC, .slice c.key.A c.key.n c.key.c, .slice c.frm.A c.frm.n c.frm.c, .slice c.upto.A c.upto.n c.upto.c, .bool c.back] 36)).alloc (.cells #[.int .i64 0, .int .u64 0, .int .u64 0, .slice none 0 0, .slice none 0 0, .int .i64 0, .slice none 0 0] 40)) w.heap.size 36 c.cs := (CbB.new w _ _).ab ((Below.refl _ _).alloc (Nat.le_refl _) _)
  have hqb : CbB ((w.alloc (.cells #[.int .i64 c.kind, .int .u32 (c.ten : Int), .slice c.sec.A c.sec.n c.sec.c, .int .i64 c.quota, .int .i64 c.n, .int .u64 (c.hd : Int), .int .u64 (c.oth : Int), .int .u64 (c.sn : Int), .int .u8 (c.rt : Int), .slice c.oA c.oN c.oC, .slice c.key.A c.key.n c.key.c, .slice c.frm.A c.frm.n c.frm.c, .slice c.upto.A c.upto.n c.upto.c, .bool c.back] 36)).alloc (.cells #[.int .i64 0, .int .u64 0, .int .u64 0, .slice none 0 0, .slice none 0 0, .int .i64 0, .slice none 0 0] 40)) (w.heap.size + 1) 40 (ansE 0) := CbB.newI (by simp)
  unfold CallP.cs at hcb ⊢
  go_enter Tryz.func50, Tryz.ntmps50
  go_upto_region 1 with (fail)
  obtain ⟨w0, hw0⟩ : ∃ w0, ((w.alloc (.cells #[.int .i64 c.kind, .int .u32 (c.ten : Int), .slice c.sec.A c.sec.n c.sec.c, .int .i64 c.quota, .int .i64 c.n, .int .u64 (c.hd : Int), .int .u64 (c.oth : Int), .int .u64 (c.sn : Int), .int .u8 (c.rt : Int), .slice c.oA c.oN c.oC, .slice c.key.A c.key.n c.key.c, .slice c.frm.A c.frm.n c.frm.c, .slice c.upto.A c.upto.n c.upto.c, .bool c.back] 36)).alloc (.cells #[.int .i64 0, .int .u64 0, .int .u64 0, .slice none 0 0, .slice none 0 0, .int .i64 0, .slice none 0 0] 40)) = w0 := ⟨_, rfl⟩
  rw [hw0] at ha hcb hqb ⊢
  clear hw0
  have c0 := (hcb).cell (k := 0) rfl
  have c1 := (hcb).cell (k := 1) rfl
  have c2 := (hcb).cell (k := 2) rfl
  have c3 := (hcb).cell (k := 3) rfl
  have c4 := (hcb).cell (k := 4) rfl
  have c5 := (hcb).cell (k := 5) rfl
  have c6 := (hcb).cell (k := 6) rfl
  have c7 := (hcb).cell (k := 7) rfl
  have c8 := (hcb).cell (k := 8) rfl
  have c9 := (hcb).cell (k := 9) rfl
  have c10 := (hcb).cell (k := 10) rfl
  have c11 := (hcb).cell (k := 11) rfl
  have c12 := (hcb).cell (k := 12) rfl
  have c13 := (hcb).cell (k := 13) rfl
  have HA := Lib.hid ha
  have HQ := Lib.hid hqb
  have HB := Lib.hid hcb
  have M0 := h.stp (Stp.cut ha (fun _ => False)) fun _ h => h
  have HM := Lib.hid M0
  have T0 := ht.stp (Stp.cut ha (fun _ => False)) fun h => h
  have HT := Lib.hid T0
  have HH := Lib.hid (holder_some 1 x cb mo sm nb es M0 hc hf T0)
  rw [hk] at HH
  have CO := Lib.hid hc
  have HFN := Lib.hid hf
  have HF := Lib.hid fun W => fails_any 262 W
  have HSN := Lib.hid hs
  clear h ha hqb hcb hf hc M0 T0 ht hk hs
  go_wp2_with fail
  refine HH.out.mono ?_
  rintro e w9 ⟨rfl, hb9⟩
  have B9 := Lib.hid hb9
  clear hb9 HH
  have q0 := (HB.out.ab B9.out).cell (k := 0) rfl
  have q1 := (HB.out.ab B9.out).cell (k := 1) rfl
  have q2 := (HB.out.ab B9.out).cell (k := 2) rfl
  have q3 := (HB.out.ab B9.out).cell (k := 3) rfl
  have q4 := (HB.out.ab B9.out).cell (k := 4) rfl
  have q5 := (HB.out.ab B9.out).cell (k := 5) rfl
  have q6 := (HB.out.ab B9.out).cell (k := 6) rfl
  have q7 := (HB.out.ab B9.out).cell (k := 7) rfl
  have q8 := (HB.out.ab B9.out).cell (k := 8) rfl
  have q9 := (HB.out.ab B9.out).cell (k := 9) rfl
  have q10 := (HB.out.ab B9.out).cell (k := 10) rfl
  have q11 := (HB.out.ab B9.out).cell (k := 11) rfl
  have q12 := (HB.out.ab B9.out).cell (k := 12) rfl
  have q13 := (HB.out.ab B9.out).cell (k := 13) rfl
  have HS := Lib.hid (seen_any (c := c) CO.out (HT.out.stp (Stp.of B9.out (fun _ => False) fun _ _ => rfl) fun h => h))
  go_wp2_with fail
  refine HS.out.mono ?_
  rintro e w8 ⟨hr, hb⟩
  rcases hr with ⟨_, rfl⟩ | ⟨S, k, h1, _⟩
  · have B8 := Lib.hid (below_tr B9.out hb B9.out.size)
    clear hb HS
    go_wp2_with fail
    refine (HF.out _).mono ?_
    rintro e w1 ⟨rfl, hb⟩
    have B1 : Hid (Below w0.heap.size w0 w1) := Lib.hid (below_tr B8.out hb B8.out.size)
    have Q1 := Lib.hid (HQ.out.ab B1.out)
    have M1 := Lib.hid (HM.out.stp (Stp.of B1.out (fun _ => False) fun _ _ => rfl) fun _ h => h)
    have S1 : Hid (Stp (fun τ => τ.1 = s) w O w1 (cutTg O w.heap.size)) := Lib.hid ((Stp.cut HA.out _).ab B1.out)
    clear hb HQ HM B1
    go_wp2_with (first
      | (with_reducible refine wpList_storeC (o := ⟨none, .store _ (.tmp 4) (.tmp 44), _, _, _, _⟩) ?_ 40 (.tmp 4) (.tmp 44) ?_ (w.heap.size + 1) ?_ (ansE 262) ?_ (cs := ansE 0) (t := 40) Q1.out (szAnsE _) ?_ (ansE_one _) ?_
         · rfl
         · rfl
         · rfl
         · rfl
         · rfl
         intro wz hwz
         have QZ : Hid (CbB wz (w.heap.size + 1) 40 (ansE 262)) := Lib.hid (by rw [hwz]; exact CbB.row Q1.out _)
         have FZ : Hid (Fr w1 wz (fun k => k = (w.heap.size + 1))) := Lib.hid (by rw [hwz]; exact fr_rowX _ _ _)
         clear hwz))
    refine bodyPost_ret (ans_results Tryz.results50 _ _ (w.heap.size + 1) (ansE 262) rfl QZ.out rfl) rfl ?_
    exact DoR.flat 262 0 0 0 ⟨m, bs, M1.out.stp (Stp.box FZ.out (cutTg_at (Nat.le_succ _))) fun i e => by have := M1.out.pos; injection e with e; omega⟩ (S1.out.fresh FZ.out (Nat.le_succ _))
  · rw [HSN.out] at h1; cases h1
theorem zero_bs {w : World} : (zeroValue 31).run Tryz.prog w = .ok (.slice none 0 0) w := by kernel_rfl
theorem szAn7 (a b c d e f g : Value) : (Tryz.prog.info? 40).map (·.size) = some (#[a, b, c, d, e, f, g] : Array Value).size := szAns
def valA (v : List Nat) : AnsP := ⟨0, 0, 0, v, [], 0, []⟩
set_option maxRecDepth 100000 in
set_option maxHeartbeats 1000000 in
theorem id_get_miss (x : Nat × TnP) (h : IdM w O s blocks T m bs) (hc : c.Ok) (hf : fnd bs (c.hd / 4294967296) = some x) (hk : checkH x.2.A (c.hd % 4294967296) 1 = 0) (hn : 1 ≤ c.key.n ∧ c.key.n ≤ 32) (hkey : IsB w c.key.A c.key.n c.key.c c.key.l) (S : Bk2) (hs : seenP x.2 c.sn = some S) (hg : getK (k8 c.key.l) S = none) :
    Calls Tryz.prog 50 #[.pointer (some ⟨s, 0, none⟩), .agg c.cs] w (DoR s blocks w O (errA 7) T) := by
  obtain ⟨cb, mo, sm, nb, es, ht⟩ := h.all x (fnd_mem hf).1
  have n1 : ((c.key.n : Int) == 0) = false := by simp; omega
  have n2 : decide ((32 : Int) < (c.key.n : Int)) = false := by simp; omega
  have n3 : ¬ c.key.n = 0 := by omega
  have n4 : ¬ 32 < c.key.n := by omega
  have ha : Below w.heap.size w ((w.alloc (.cells #[.int .i64 c.kind, .int .u32 (c.ten : Int), .slice c.sec.A c.sec.n c.sec.c, .int .i64 c.quota, .int .i64 c.n, .int .u64 (c.hd : Int), .int .u64 (c.oth : Int), .int .u64 (c.sn : Int), .int .u8 (c.rt : Int), .slice c.oA c.oN c.oC, .slice c.key.A c.key.n c.key.c, .slice c.frm.A c.frm.n c.frm.c, .slice c.upto.A c.upto.n c.upto.c, .bool c.back] 36)).alloc (.cells #[.int .i64 0, .int .u64 0, .int .u64 0, .slice none 0 0, .slice none 0 0, .int .i64 0, .slice none 0 0] 40)) := ((Below.refl _ _).alloc (Nat.le_refl _) _).alloc (by simp) _
  have hcb : CbB ((w.alloc (.cells #[.int .i64 c.kind, .int .u32 (c.ten : Int), .slice c.sec.A c.sec.n c.sec.c, .int .i64 c.quota, .int .i64 c.n, .int .u64 (c.hd : Int), .int .u64 (c.oth : Int), .int .u64 (c.sn : Int), .int .u8 (c.rt : Int), .slice c.oA c.oN c.oC, .slice c.key.A c.key.n c.key.c, .slice c.frm.A c.frm.n c.frm.c, .slice c.upto.A c.upto.n c.upto.c, .bool c.back] 36)).alloc (.cells #[.int .i64 0, .int .u64 0, .int .u64 0, .slice none 0 0, .slice none 0 0, .int .i64 0, .slice none 0 0] 40)) w.heap.size 36 c.cs := (CbB.new w _ _).ab ((Below.refl _ _).alloc (Nat.le_refl _) _)
  have hqb : CbB ((w.alloc (.cells #[.int .i64 c.kind, .int .u32 (c.ten : Int), .slice c.sec.A c.sec.n c.sec.c, .int .i64 c.quota, .int .i64 c.n, .int .u64 (c.hd : Int), .int .u64 (c.oth : Int), .int .u64 (c.sn : Int), .int .u8 (c.rt : Int), .slice c.oA c.oN c.oC, .slice c.key.A c.key.n c.key.c, .slice c.frm.A c.frm.n c.frm.c, .slice c.upto.A c.upto.n c.upto.c, .bool c.back] 36)).alloc (.cells #[.int .i64 0, .int .u64 0, .int .u64 0, .slice none 0 0, .slice none 0 0, .int .i64 0, .slice none 0 0] 40)) (w.heap.size + 1) 40 (ansE 0) := CbB.newI (by simp)
  unfold CallP.cs at hcb ⊢
  go_enter Tryz.func50, Tryz.ntmps50
  go_upto_region 1 with (fail)
  obtain ⟨w0, hw0⟩ : ∃ w0, ((w.alloc (.cells #[.int .i64 c.kind, .int .u32 (c.ten : Int), .slice c.sec.A c.sec.n c.sec.c, .int .i64 c.quota, .int .i64 c.n, .int .u64 (c.hd : Int), .int .u64 (c.oth : Int), .int .u64 (c.sn : Int), .int .u8 (c.rt : Int), .slice c.oA c.oN c.oC, .slice c.key.A c.key.n c.key.c, .slice c.frm.A c.frm.n c.frm.c, .slice c.upto.A c.upto.n c.upto.c, .bool c.back] 36)).alloc (.cells #[.int .i64 0, .int .u64 0, .int .u64 0, .slice none 0 0, .slice none 0 0, .int .i64 0, .slice none 0 0] 40)) = w0 := ⟨_, rfl⟩
  rw [hw0] at ha hcb hqb ⊢
  clear hw0
  have c0 := (hcb).cell (k := 0) rfl
  have c1 := (hcb).cell (k := 1) rfl
  have c2 := (hcb).cell (k := 2) rfl
  have c3 := (hcb).cell (k := 3) rfl
  have c4 := (hcb).cell (k := 4) rfl
  have c5 := (hcb).cell (k := 5) rfl
  have c6 := (hcb).cell (k := 6) rfl
  have c7 := (hcb).cell (k := 7) rfl
  have c8 := (hcb).cell (k := 8) rfl
  have c9 := (hcb).cell (k := 9) rfl
  have c10 := (hcb).cell (k := 10) rfl
  have c11 := (hcb).cell (k := 11) rfl
  have c12 := (hcb).cell (k := 12) rfl
  have c13 := (hcb).cell (k := 13) rfl
  have HA := Lib.hid ha
  have HQ := Lib.hid hqb
  have HB := Lib.hid hcb
  have M0 := h.stp (Stp.cut ha (fun _ => False)) fun _ h => h
  have HM := Lib.hid M0
  have T0 := ht.stp (Stp.cut ha (fun _ => False)) fun h => h
  have HT := Lib.hid T0
  have HH := Lib.hid (holder_some 1 x cb mo sm nb es M0 hc hf T0)
  rw [hk] at HH
  have CO := Lib.hid hc
  have HFN := Lib.hid hf
  have HF := Lib.hid fun W => fails_any 7 W
  have HSN := Lib.hid hs
  have HG := Lib.hid hg
  have HK := Lib.hid (hkey.ab ha)
  have KO : Hid (kyOk (k8 c.key.l)) := Lib.hid (by unfold kyOk; rw [k8_len, hkey.len]; exact hn.2)
  clear h ha hqb hcb hf hc M0 T0 ht hk hs hg hkey hn
  go_wp2_with fail
  refine HH.out.mono ?_
  rintro e w9 ⟨rfl, hb9⟩
  have B9 := Lib.hid hb9
  clear hb9 HH
  have q0 := (HB.out.ab B9.out).cell (k := 0) rfl
  have q1 := (HB.out.ab B9.out).cell (k := 1) rfl
  have q2 := (HB.out.ab B9.out).cell (k := 2) rfl
  have q3 := (HB.out.ab B9.out).cell (k := 3) rfl
  have q4 := (HB.out.ab B9.out).cell (k := 4) rfl
  have q5 := (HB.out.ab B9.out).cell (k := 5) rfl
  have q6 := (HB.out.ab B9.out).cell (k := 6) rfl
  have q7 := (HB.out.ab B9.out).cell (k := 7) rfl
  have q8 := (HB.out.ab B9.out).cell (k := 8) rfl
  have q9 := (HB.out.ab B9.out).cell (k := 9) rfl
  have q10 := (HB.out.ab B9.out).cell (k := 10) rfl
  have q11 := (HB.out.ab B9.out).cell (k := 11) rfl
  have q12 := (HB.out.ab B9.out).cell (k := 12) rfl
  have q13 := (HB.out.ab B9.out).cell (k := 13) rfl
  have HS := Lib.hid (seen_any (c := c) CO.out (HT.out.stp (Stp.of B9.out (fun _ => False) fun _ _ => rfl) fun h => h))
  go_wp2_with fail
  refine HS.out.mono ?_
  rintro e w8 ⟨hr, hb⟩
  rcases hr with ⟨hz, _⟩ | ⟨S', k, h1, hbk, hko, rfl⟩
  · rw [HSN.out] at hz; cases hz
  rw [HSN.out] at h1
  injection h1 with h1
  subst h1
  have B8 := Lib.hid (below_tr B9.out hb B9.out.size)
  have BK := Lib.hid (hbk.stp hko (Stp.of (O' := cutTg O w.heap.size) hb (fun _ => False) fun _ _ => rfl))
  clear hb HS hbk hko
  have q10 := (HB.out.ab B8.out).cell (k := 10) rfl
  have hst := run_str (HK.out.ab B8.out) 31 5 9 Tryz.underlying31 Tryz.underlying5 Tryz.underlying9
  rcases BK.out.look (k8 c.key.l) KO.out with ⟨_, hlk⟩ | ⟨v, u', hu, _⟩
  · have hlk := hlk w8 rfl _ zero_bs 78 true Tryz.underlying78
    rw [← strOf_k8] at hlk
    simp only [if_true] at hlk
    go_wp2_with fail
    refine (HF.out _).mono ?_
    rintro e w1 ⟨rfl, hb⟩
    have B1 : Hid (Below w0.heap.size w0 w1) := Lib.hid (below_tr B8.out hb B8.out.size)
    have Q1 := Lib.hid (HQ.out.ab B1.out)
    have M1 := Lib.hid (HM.out.stp (Stp.of B1.out (fun _ => False) fun _ _ => rfl) fun _ h => h)
    have S1 : Hid (Stp (fun τ => τ.1 = s) w O w1 (cutTg O w.heap.size)) := Lib.hid ((Stp.cut HA.out _).ab B1.out)
    clear hb HQ HM B1
    go_wp2_with (first
      | (with_reducible refine wpList_storeC (o := ⟨none, .store _ (.tmp 4) (.tmp 55), _, _, _, _⟩) ?_ 40 (.tmp 4) (.tmp 55) ?_ (w.heap.size + 1) ?_ (ansE 7) ?_ (cs := ansE 0) (t := 40) Q1.out (szAnsE _) ?_ (ansE_one _) ?_
         · rfl
         · rfl
         · rfl
         · rfl
         · rfl
         intro wz hwz
         have QZ : Hid (CbB wz (w.heap.size + 1) 40 (ansE 7)) := Lib.hid (by rw [hwz]; exact CbB.row Q1.out _)
         have FZ : Hid (Fr w1 wz (fun k => k = (w.heap.size + 1))) := Lib.hid (by rw [hwz]; exact fr_rowX _ _ _)
         clear hwz))
    refine bodyPost_ret (ans_results Tryz.results50 _ _ (w.heap.size + 1) (ansE 7) rfl QZ.out rfl) rfl ?_
    exact DoR.flat 7 0 0 0 ⟨m, bs, M1.out.stp (Stp.box FZ.out (cutTg_at (Nat.le_succ _))) fun i e => by have := M1.out.pos; injection e with e; omega⟩ (S1.out.fresh FZ.out (Nat.le_succ _))
  · rw [HG.out] at hu; cases hu
set_option maxRecDepth 100000 in
set_option maxHeartbeats 1000000 in
theorem id_get_hit (x : Nat × TnP) (h : IdM w O s blocks T m bs) (hc : c.Ok) (hf : fnd bs (c.hd / 4294967296) = some x) (hk : checkH x.2.A (c.hd % 4294967296) 1 = 0) (hn : 1 ≤ c.key.n ∧ c.key.n ≤ 32) (hkey : IsB w c.key.A c.key.n c.key.c c.key.l) (S : Bk2) (hs : seenP x.2 c.sn = some S) (u : List Nat) (hg : getK (k8 c.key.l) S = some u) :
    Calls Tryz.prog 50 #[.pointer (some ⟨s, 0, none⟩), .agg c.cs] w (DoR s blocks w O (valA u) T) := by
  obtain ⟨cb, mo, sm, nb, es, ht⟩ := h.all x (fnd_mem hf).1
  have n1 : ((c.key.n : Int) == 0) = false := by simp; omega
  have n2 : decide ((32 : Int) < (c.key.n : Int)) = false := by simp; omega
  have n3 : ¬ c.key.n = 0 := by omega
  have n4 : ¬ 32 < c.key.n := by omega
  have ha : Below w.heap.size w ((w.alloc (.cells #[.int .i64 c.kind, .int .u32 (c.ten : Int), .slice c.sec.A c.sec.n c.sec.c, .int .i64 c.quota, .int .i64 c.n, .int .u64 (c.hd : Int), .int .u64 (c.oth : Int), .int .u64 (c.sn : Int), .int .u8 (c.rt : Int), .slice c.oA c.oN c.oC, .slice c.key.A c.key.n c.key.c, .slice c.frm.A c.frm.n c.frm.c, .slice c.upto.A c.upto.n c.upto.c, .bool c.back] 36)).alloc (.cells #[.int .i64 0, .int .u64 0, .int .u64 0, .slice none 0 0, .slice none 0 0, .int .i64 0, .slice none 0 0] 40)) := ((Below.refl _ _).alloc (Nat.le_refl _) _).alloc (by simp) _
  have hcb : CbB ((w.alloc (.cells #[.int .i64 c.kind, .int .u32 (c.ten : Int), .slice c.sec.A c.sec.n c.sec.c, .int .i64 c.quota, .int .i64 c.n, .int .u64 (c.hd : Int), .int .u64 (c.oth : Int), .int .u64 (c.sn : Int), .int .u8 (c.rt : Int), .slice c.oA c.oN c.oC, .slice c.key.A c.key.n c.key.c, .slice c.frm.A c.frm.n c.frm.c, .slice c.upto.A c.upto.n c.upto.c, .bool c.back] 36)).alloc (.cells #[.int .i64 0, .int .u64 0, .int .u64 0, .slice none 0 0, .slice none 0 0, .int .i64 0, .slice none 0 0] 40)) w.heap.size 36 c.cs := (CbB.new w _ _).ab ((Below.refl _ _).alloc (Nat.le_refl _) _)
  have hqb : CbB ((w.alloc (.cells #[.int .i64 c.kind, .int .u32 (c.ten : Int), .slice c.sec.A c.sec.n c.sec.c, .int .i64 c.quota, .int .i64 c.n, .int .u64 (c.hd : Int), .int .u64 (c.oth : Int), .int .u64 (c.sn : Int), .int .u8 (c.rt : Int), .slice c.oA c.oN c.oC, .slice c.key.A c.key.n c.key.c, .slice c.frm.A c.frm.n c.frm.c, .slice c.upto.A c.upto.n c.upto.c, .bool c.back] 36)).alloc (.cells #[.int .i64 0, .int .u64 0, .int .u64 0, .slice none 0 0, .slice none 0 0, .int .i64 0, .slice none 0 0] 40)) (w.heap.size + 1) 40 (ansE 0) := CbB.newI (by simp)
  unfold CallP.cs at hcb ⊢
  go_enter Tryz.func50, Tryz.ntmps50
  go_upto_region 1 with (fail)
  obtain ⟨w0, hw0⟩ : ∃ w0, ((w.alloc (.cells #[.int .i64 c.kind, .int .u32 (c.ten : Int), .slice c.sec.A c.sec.n c.sec.c, .int .i64 c.quota, .int .i64 c.n, .int .u64 (c.hd : Int), .int .u64 (c.oth : Int), .int .u64 (c.sn : Int), .int .u8 (c.rt : Int), .slice c.oA c.oN c.oC, .slice c.key.A c.key.n c.key.c, .slice c.frm.A c.frm.n c.frm.c, .slice c.upto.A c.upto.n c.upto.c, .bool c.back] 36)).alloc (.cells #[.int .i64 0, .int .u64 0, .int .u64 0, .slice none 0 0, .slice none 0 0, .int .i64 0, .slice none 0 0] 40)) = w0 := ⟨_, rfl⟩
  rw [hw0] at ha hcb hqb ⊢
  clear hw0
  have c0 := (hcb).cell (k := 0) rfl
  have c1 := (hcb).cell (k := 1) rfl
  have c2 := (hcb).cell (k := 2) rfl
  have c3 := (hcb).cell (k := 3) rfl
  have c4 := (hcb).cell (k := 4) rfl
  have c5 := (hcb).cell (k := 5) rfl
  have c6 := (hcb).cell (k := 6) rfl
  have c7 := (hcb).cell (k := 7) rfl
  have c8 := (hcb).cell (k := 8) rfl
  have c9 := (hcb).cell (k := 9) rfl
  have c10 := (hcb).cell (k := 10) rfl
  have c11 := (hcb).cell (k := 11) rfl
  have c12 := (hcb).cell (k := 12) rfl
  have c13 := (hcb).cell (k := 13) rfl
  have HA := Lib.hid ha
  have HQ := Lib.hid hqb
  have HB := Lib.hid hcb
  have M0 := h.stp (Stp.cut ha (fun _ => False)) fun _ h => h
  have HM := Lib.hid M0
  have T0 := ht.stp (Stp.cut ha (fun _ => False)) fun h => h
  have HT := Lib.hid T0
  have HH := Lib.hid (holder_some 1 x cb mo sm nb es M0 hc hf T0)
  rw [hk] at HH
  have CO := Lib.hid hc
  have HFN := Lib.hid hf
  have HSN := Lib.hid hs
  have HG := Lib.hid hg
  have HK := Lib.hid (hkey.ab ha)
  have KO : Hid (kyOk (k8 c.key.l)) := Lib.hid (by unfold kyOk; rw [k8_len, hkey.len]; exact hn.2)
  clear h ha hqb hcb hf hc M0 T0 ht hk hs hg hkey hn
  go_wp2_with fail
  refine HH.out.mono ?_
  rintro e w9 ⟨rfl, hb9⟩
  have B9 := Lib.hid hb9
  clear hb9 HH
  have q0 := (HB.out.ab B9.out).cell (k := 0) rfl
  have q1 := (HB.out.ab B9.out).cell (k := 1) rfl
  have q2 := (HB.out.ab B9.out).cell (k := 2) rfl
  have q3 := (HB.out.ab B9.out).cell (k := 3) rfl
  have q4 := (HB.out.ab B9.out).cell (k := 4) rfl
  have q5 := (HB.out.ab B9.out).cell (k := 5) rfl
  have q6 := (HB.out.ab B9.out).cell (k := 6) rfl
  have q7 := (HB.out.ab B9.out).cell (k := 7) rfl
  have q8 := (HB.out.ab B9.out).cell (k := 8) rfl
  have q9 := (HB.out.ab B9.out).cell (k := 9) rfl
  have q10 := (HB.out.ab B9.out).cell (k := 10) rfl
  have q11 := (HB.out.ab B9.out).cell (k := 11) rfl
  have q12 := (HB.out.ab B9.out).cell (k := 12) rfl
  have q13 := (HB.out.ab B9.out).cell (k := 13) rfl
  have HS := Lib.hid (seen_any (c := c) CO.out (HT.out.stp (Stp.of B9.out (fun _ => False) fun _ _ => rfl) fun h => h))
  go_wp2_with fail
  refine HS.out.mono ?_
  rintro e w8 ⟨hr, hb⟩
  rcases hr with ⟨hz, _⟩ | ⟨S', k, h1, hbk, hko, rfl⟩
  · rw [HSN.out] at hz; cases hz
  rw [HSN.out] at h1
  injection h1 with h1
  subst h1
  have B8 := Lib.hid (below_tr B9.out hb B9.out.size)
  have BK := Lib.hid (hbk.stp hko (Stp.of (O' := cutTg O w.heap.size) hb (fun _ => False) fun _ _ => rfl))
  clear hb HS hbk hko
  have q10 := (HB.out.ab B8.out).cell (k := 10) rfl
  have hst := run_str (HK.out.ab B8.out) 31 5 9 Tryz.underlying31 Tryz.underlying5 Tryz.underlying9
  rcases BK.out.look (k8 c.key.l) KO.out with ⟨hz, _⟩ | ⟨v, u', hu, him, hlk⟩
  · rw [HG.out] at hz; cases hz
  rw [HG.out] at hu
  injection hu with hu
  subst hu
  obtain ⟨vA, vn, vc, rfl, hvn, hvi, _⟩ := him
  have hlk := hlk w8 rfl 78 true Tryz.underlying78
  rw [← strOf_k8] at hlk
  simp only [if_true] at hlk
  have HC := Lib.hid (bclone_any vA vn vc u w8 hvi hvn)
  clear hvi hvn
  go_wp2_with fail
  refine HC.out.mono ?_
  rintro e w7 ⟨v7, rfl, ho, hb⟩
  obtain ⟨A7, c7', rfl, _, _⟩ := ho.shape
  have OW := Lib.hid ho
  have B7 := Lib.hid (below_tr B8.out hb B8.out.size)
  have G8 : Hid (w.heap.size ≤ w8.heap.size) := Lib.hid (Nat.le_trans HA.out.size B8.out.size)
  have Q7 := Lib.hid (HQ.out.ab B7.out)
  have M7 := Lib.hid (HM.out.stp (Stp.of B7.out (fun _ => False) fun _ _ => rfl) fun _ h => h)
  have S7 : Hid (Stp (fun τ => τ.1 = s) w O w7 (cutTg O w.heap.size)) := Lib.hid ((Stp.cut HA.out _).ab B7.out)
  clear ho hb HC hlk hst
  go_wp2_with (first
    | (with_reducible refine wpList_storeC (o := ⟨none, .store _ (.tmp 4) (.tmp 58), _, _, _, _⟩) ?_ 40 (.tmp 4) (.tmp 58) ?_ (w.heap.size + 1) ?_ (#[.int .i64 0, .int .u64 0, .int .u64 0, .slice A7 u.length c7', .slice none 0 0, .int .i64 0, .slice none 0 0]) ?_ (cs := ansE 0) (t := 40) Q7.out (szAn7 _ _ _ _ _ _ _) ?_ (by simp [Value.oneCell']) ?_
       · rfl
       · rfl
       · rfl
       · rfl
       · rfl
       intro wz hwz
       have QZ : Hid (CbB wz (w.heap.size + 1) 40 (#[.int .i64 0, .int .u64 0, .int .u64 0, .slice A7 u.length c7', .slice none 0 0, .int .i64 0, .slice none 0 0])) := Lib.hid (by rw [hwz]; exact CbB.row Q7.out _)
       have FZ : Hid (Fr w7 wz (fun k => k = (w.heap.size + 1))) := Lib.hid (by rw [hwz]; exact fr_rowX _ _ _)
       clear hwz))
  refine bodyPost_ret (ans_results Tryz.results50 _ _ (w.heap.size + 1) (#[.int .i64 0, .int .u64 0, .int .u64 0, .slice A7 u.length c7', .slice none 0 0, .int .i64 0, .slice none 0 0]) rfl QZ.out rfl) rfl ?_
  have nb : ∀ q, (Value.slice A7 u.length c7').ownBlock = some q → w8.heap.size ≤ q ∧ q < w7.heap.size := fun q hq => OW.out.lt q hq
  have hbx : w.heap.size + 1 < w8.heap.size := Nat.lt_of_lt_of_le HQ.out.lt B8.out.size
  refine ⟨_, cutTg O w.heap.size, rfl, ⟨_, _, _, rfl, (OW.out.fr FZ.out (fun q hq e => by have := nb q hq; omega)).lower G8.out, fun q hq => cutTg_at (by have := nb q hq; have := G8.out; omega), ⟨[], World.ownsRow_nil _ _ _ _, fun g hg => (by cases hg), rfl, fun i p q hi => (by simp at hi)⟩, U32.NsB.nil _ _, fun g hg => (by cases hg)⟩, ⟨m, bs, M7.out.stp (Stp.box FZ.out (cutTg_at (Nat.le_succ _))) fun i e => by have := M7.out.pos; injection e with e; omega⟩, S7.out.fresh FZ.out (Nat.le_succ _)⟩
end
end Go.Proofs.YtnnjmelibmiimaaGreat
namespace Go.Proofs.YtnnjmelibmiimaaGreat
open Go.RowKit

theorem three (n lo hi : Int) : n < lo ∨ (¬ n < lo ∧ hi < n) ∨ (¬ n < lo ∧ n ≤ hi ∧ lo ≤ n) := by omega

set_option maxHeartbeats 400000 in
theorem qR_bad (n : Int) (w : World) (h : n < 1 ∨ 1000 < n) :
    Calls Tryz.prog 105 #[.int .i64 n] w fun e w' => e = .returned (.tuple #[.int .i64 0, .int .i64 2]) ∧ w = w' := by
  rcases h with h | h
  · go_enter Tryz.func105, Tryz.ntmps105
    go_wp2
    go_ret2
    exact ⟨rfl, rfl⟩
  · have h0 : ¬ n < 1 := by omega
    go_enter Tryz.func105, Tryz.ntmps105
    go_wp2
    go_ret2
    exact ⟨rfl, rfl⟩

set_option maxHeartbeats 400000 in
theorem qR_ok (n : Int) (w : World) (h0 : 1 ≤ n) (h1 : n ≤ 1000) :
    Calls Tryz.prog 105 #[.int .i64 n] w fun e w' => e = .returned (.tuple #[.int .i64 (4 * n + 2), .int .i64 0]) ∧ w = w' := by
  go_enter Tryz.func105, Tryz.ntmps105
  go_wp2
  go_ret2
  exact ⟨rfl, rfl⟩

set_option maxHeartbeats 400000 in
theorem qD_bad (n : Int) (w : World) (h : n < 0 ∨ 64 < n) :
    Calls Tryz.prog 103 #[.int .i64 n] w fun e w' => e = .returned (.tuple #[.int .i64 0, .int .i64 2]) ∧ w = w' := by
  rcases h with h | h
  · go_enter Tryz.func103, Tryz.ntmps103
    go_wp2
    go_ret2
    exact ⟨rfl, rfl⟩
  · have h0 : ¬ n < 0 := by omega
    go_enter Tryz.func103, Tryz.ntmps103
    go_wp2
    go_ret2
    exact ⟨rfl, rfl⟩

set_option maxHeartbeats 400000 in
theorem qD_ok (n : Int) (w : World) (h0 : 0 ≤ n) (h1 : n ≤ 64) :
    Calls Tryz.prog 103 #[.int .i64 n] w fun e w' => e = .returned (.tuple #[.int .i64 (8 * n + 4), .int .i64 0]) ∧ w = w' := by
  go_enter Tryz.func103, Tryz.ntmps103
  go_wp2
  go_ret2
  exact ⟨rfl, rfl⟩

def quotaB (n : Int) : Bool := decide (1 ≤ n) && decide (n ≤ 1000)
theorem quotaB_yes {n : Int} (h0 : 1 ≤ n) (h1 : n ≤ 1000) : quotaB n = true := by unfold quotaB; simp; omega
theorem quotaB_no {n : Int} (h : n < 1 ∨ 1000 < n) : quotaB n = false := by unfold quotaB; simp; omega

set_option maxHeartbeats 400000 in
theorem qPieces_bad (n : Int) (w : World) (h : n < 0 ∨ 1024 < n) :
    Calls Tryz.prog 129 #[.int .i64 n] w fun e w' => e = .returned (.tuple #[.int .i64 0, .int .i64 2]) ∧ w = w' := by
  rcases h with h | h
  · go_enter Tryz.func129, Tryz.ntmps129
    go_wp2
    go_ret2
    exact ⟨rfl, rfl⟩
  · have h0 : ¬ n < 0 := by omega
    go_enter Tryz.func129, Tryz.ntmps129
    go_wp2
    go_ret2
    exact ⟨rfl, rfl⟩

/-- how many pieces: the plain function -/
def piecesOf (n : Int) : Int := if n ≤ 64 then 0 else (n + 207) / 208

set_option maxHeartbeats 400000 in
theorem qPieces_ok (n : Int) (w : World) (h0 : 0 ≤ n) (h1 : n ≤ 1024) :
    Calls Tryz.prog 129 #[.int .i64 n] w fun e w' => e = .returned (.tuple #[.int .i64 (piecesOf n), .int .i64 0]) ∧ w = w' := by
  by_cases h : n ≤ 64
  · have e : piecesOf n = 0 := by unfold piecesOf; rw [if_pos h]
    rw [e]
    clear e
    go_enter Tryz.func129, Tryz.ntmps129
    go_wp2
    go_ret2
    exact ⟨rfl, rfl⟩
  · have e : piecesOf n = (n + 208 - 1) / 208 := by unfold piecesOf; rw [if_neg h]; omega
    rw [e]
    clear e
    go_enter Tryz.func129, Tryz.ntmps129
    go_wp2
    go_ret2
    exact ⟨rfl, rfl⟩

set_option maxHeartbeats 400000 in
theorem qCost_ok (ka va : Option Addr) (kl kc vl vc : Nat) (w : World) (h0 : 1 ≤ kl) (h1 : kl ≤ 32) (h2 : vl ≤ 1024) :
    Calls Tryz.prog 115 #[.slice ka kl kc, .slice va vl vc] w fun e w' => e = .returned (.tuple #[.int .i64 (piecesOf vl + 1), .int .i64 0]) ∧ w = w' := by
  have hp : 0 ≤ piecesOf vl ∧ piecesOf vl ≤ 10 := by unfold piecesOf; split <;> omega
  have hk0 : ((kl : Int) == 0) = false := by simp; omega
  have hk1 : decide (32 < (kl : Int)) = false := by simp; omega
  go_enter Tryz.func115, Tryz.ntmps115
  go_wp2_with (go_at_call 129; refine (qPieces_ok _ _ (by omega) (by omega)).mono ?_; rintro e w' ⟨rfl, rfl⟩)
  go_ret2
  exact ⟨rfl, rfl⟩

set_option maxHeartbeats 400000 in
theorem qCost_long (ka va : Option Addr) (kl kc vl vc : Nat) (w : World) (h2 : 1024 < vl) :
    Calls Tryz.prog 115 #[.slice ka kl kc, .slice va vl vc] w fun e w' => e = .returned (.tuple #[.int .i64 0, .int .i64 2]) ∧ w = w' := by
  go_enter Tryz.func115, Tryz.ntmps115
  go_wp2_with (go_at_call 129; refine (qPieces_bad _ _ (by omega)).mono ?_; rintro e w' ⟨rfl, rfl⟩)
  go_ret2
  exact ⟨rfl, rfl⟩

set_option maxHeartbeats 400000 in
theorem qCost_key (ka va : Option Addr) (kl kc vl vc : Nat) (w : World) (h2 : vl ≤ 1024) (h : kl = 0 ∨ 32 < kl) :
    Calls Tryz.prog 115 #[.slice ka kl kc, .slice va vl vc] w fun e w' => e = .returned (.tuple #[.int .i64 0, .int .i64 2]) ∧ w = w' := by
  rcases h with rfl | h
  · go_enter Tryz.func115, Tryz.ntmps115
    go_wp2_with (go_at_call 129; refine (qPieces_ok _ _ (by omega) (by omega)).mono ?_; rintro e w' ⟨rfl, rfl⟩)
    go_ret2
    exact ⟨rfl, rfl⟩
  · have hk0 : ((kl : Int) == 0) = false := by simp; omega
    have hk1 : decide (32 < (kl : Int)) = true := by simp; omega
    go_enter Tryz.func115, Tryz.ntmps115
    go_wp2_with (go_at_call 129; refine (qPieces_ok _ _ (by omega) (by omega)).mono ?_; rintro e w' ⟨rfl, rfl⟩)
    go_ret2
    exact ⟨rfl, rfl⟩

theorem infoI64 : (Tryz.prog.info? 3).map (fun i => (i.zero, i.size, i.bytes)) = some (some (.int .i64 0), 1, 8) := by kernel_rfl
end Go.Proofs.YtnnjmelibmiimaaGreat
namespace Go.Proofs.YtnnjmelibmiimaaGreat
open Go.RowKit Go.Deep
set_option linter.unusedVariables false

/-- what a pair costs, and its error -/
def costN (kl vl : Nat) : Int := if 1 ≤ kl ∧ kl ≤ 32 ∧ vl ≤ 1024 then piecesOf vl + 1 else 0
def costE (kl vl : Nat) : Int := if 1 ≤ kl ∧ kl ≤ 32 ∧ vl ≤ 1024 then 0 else 2
theorem costN_bd (kl vl : Nat) : 0 ≤ costN kl vl ∧ costN kl vl ≤ 11 := by
  unfold costN
  split
  · unfold piecesOf; split <;> omega
  · omega

theorem qCost_any (ka va : Option Addr) (kl kc vl vc : Nat) (w : World) :
    Calls Tryz.prog 115 #[.slice ka kl kc, .slice va vl vc] w fun e w' => e = .returned (.tuple #[.int .i64 (costN kl vl), .int .i64 (costE kl vl)]) ∧ w = w' := by
  unfold costN costE
  by_cases hv : vl ≤ 1024
  · by_cases hk : 1 ≤ kl ∧ kl ≤ 32
    · rw [if_pos ⟨hk.1, hk.2, hv⟩, if_pos ⟨hk.1, hk.2, hv⟩]
      exact qCost_ok ka va kl kc vl vc w hk.1 hk.2 hv
    · rw [if_neg (by omega), if_neg (by omega)]
      exact qCost_key ka va kl kc vl vc w hv (by omega)
  · rw [if_neg (by omega), if_neg (by omega)]
    exact qCost_long ka va kl kc vl vc w (by omega)

/-- a slice of pairs that came in -/
def IsPairs (w : World) (A : Option Addr) (n c : Nat) (K V : Nat → Option Addr × Nat × Nat) : Prop :=
  n ≤ c ∧ c ≤ maxLen ∧ ((A = none ∧ c = 0) ∨ ∃ x, A = some x ∧ (0 < c → x.block < w.heap.size) ∧ ∀ i, i < n →
    w.cell? (x.add (i * 2)) = some (.slice (K i).1 (K i).2.1 (K i).2.2) ∧ w.cell? (x.add (i * 2 + 1)) = some (.slice (V i).1 (V i).2.1 (V i).2.2))
theorem IsPairs.at {w : World} {A : Option Addr} {n c : Nat} {K V : Nat → Option Addr × Nat × Nat} (h : IsPairs w A n c K V) (hn : 0 < n) : ∃ x, A = some x ∧ x.block < w.heap.size ∧ ∀ i, i < n →
    w.cell? (x.add (i * 2)) = some (.slice (K i).1 (K i).2.1 (K i).2.2) ∧ w.cell? (x.add (i * 2 + 1)) = some (.slice (V i).1 (V i).2.1 (V i).2.2) := by
  obtain ⟨hc, _, h5⟩ := h
  rcases h5 with ⟨_, h0⟩ | ⟨x, h1, h2, h3⟩
  · omega
  · exact ⟨x, h1, h2 (by omega), h3⟩
theorem IsPairs.below {w w' : World} {A : Option Addr} {n c : Nat} {K V : Nat → Option Addr × Nat × Nat} (h : IsPairs w A n c K V) (hb : Below w.heap.size w w') : IsPairs w' A n c K V := by
  obtain ⟨h1, h2, h5⟩ := h
  refine ⟨h1, h2, ?_⟩
  rcases h5 with h5 | ⟨x, e, hx, hc⟩
  · exact .inl h5
  · refine .inr ⟨x, e, fun h0 => Nat.lt_of_lt_of_le (hx h0) hb.size, fun i hi => ?_⟩
    have hlt := hx (by omega)
    exact ⟨(hb.cell (by rw [add_block]; exact hlt)).trans (hc i hi).1, (hb.cell (by rw [add_block]; exact hlt)).trans (hc i hi).2⟩

def cN (K V : Nat → Option Addr × Nat × Nat) (i : Nat) : Int := costN (K i).2.1 (V i).2.1
end Go.Proofs.YtnnjmelibmiimaaGreat
namespace Go.Proofs.YtnnjmelibmiimaaGreat
open Go.RowKit
set_option linter.unusedVariables false

/-- a block of one int -/
def One (w : World) (b : Nat) (v : Int) : Prop := w.heap[b]? = some (.cells #[.int .i64 v] 3 (0, 0))
theorem One.cell {w : World} {b : Nat} {v : Int} (h : One w b v) : w.cell? ⟨b, 0, none⟩ = some (.int .i64 v) := cell_of_one h
theorem One.free {w : World} {b : Nat} {v : Int} (h : One w b v) : w.frozen? ⟨b, 0, none⟩ = false := free_of_one h
theorem One.set {w : World} {b : Nat} {v : Int} (h : One w b v) (u : Int) : One (w.setCell ⟨b, 0, none⟩ (.int .i64 u)) b u := one_setCell h
theorem One.far {w : World} {b c : Nat} {v : Int} (h : One w b v) (hne : b ≠ c) (u : Value) : One (w.setCell ⟨c, 0, none⟩ u) b v := (Below.heap_setCell w ⟨c, 0, none⟩ u b hne).trans h

def AddEnd (w : World) (bh bl : Nat) (h l n : Int) (e : Ending) (w' : World) : Prop :=
  e = .returned (.tuple #[]) ∧ One w' bh (h + n / 4294967296 + (l + n % 4294967296) / 4294967296) ∧ One w' bl ((l + n) % 4294967296) ∧ ∀ B, B ≤ bh → B ≤ bl → Below B w w'

theorem i64_mask32 (n : Int) : bits .and .i64 n 4294967295 = n % 4294967296 := by
  have h127 : (BitVec.ofInt 64 4294967295).toNat = 2 ^ 32 - 1 := by decide
  have key : (BitVec.ofInt 64 n &&& BitVec.ofInt 64 4294967295).toNat = (n % ((2 ^ 64 : Nat) : Int)).toNat % 2 ^ 32 := by
    rw [BitVec.toNat_and, BitVec.toNat_ofInt, h127, Nat.and_two_pow_sub_one_eq_mod]
  show IntKind.i64.wrap ((BitVec.ofInt 64 n &&& BitVec.ofInt 64 4294967295).toNat : Nat) = n % 4294967296
  rw [key, IntKind.wrap_i64]
  omega

set_option maxHeartbeats 1000000 in
theorem qadd_any (bh bl : Nat) (hne : bh ≠ bl) (h l n : Int) (w : World) (h1 : One w bh h) (h2 : One w bl l) (hb : -4611686018427387904 ≤ h ∧ h ≤ 4611686018427387904) (lb : 0 ≤ l ∧ l ≤ 4294967295) (nb : -9223372036854775807 - 1 ≤ n ∧ n ≤ 9223372036854775807) :
    Calls Tryz.prog 114 #[.int .i64 n, .pointer (some ⟨bh, 0, none⟩), .pointer (some ⟨bl, 0, none⟩)] w (AddEnd w bh bl h l n) := by
  have c1 := h1.cell
  have c2 := h2.cell
  have f1 := h1.free
  have f2 := h2.free
  have hne' : bl ≠ bh := fun e => hne e.symm
  have H1 := Lib.hid h1
  have H2 := Lib.hid h2
  have hmask := i64_mask32
  clear h1 h2
  go_enter Tryz.func114, Tryz.ntmps114
  go_wp2
  go_end0
  refine ⟨rfl, ?_, ?_, fun B hB1 hB2 => ?_⟩
  · exact ((((H1.out.set _).far hne _).set _).far hne _)
  · exact ((((H2.out.far hne' _).set _).far hne' _).set _)
  · exact ((((Below.refl _ _).setCell hB1 _).setCell hB2 _).setCell hB1 _).setCell hB2 _

/-- the sum of a charge and its snapshots, one more each -/
def sumS (zs : List Int) : Int := (zs.map (· + 1)).sum
theorem sumS_take_succ (zs : List Int) (k : Nat) (h : k < zs.length) : sumS (zs.take (k + 1)) = sumS (zs.take k) + (zs[k]?.getD 0 + 1) := by
  rw [List.take_succ_eq_append_getElem h, List.getElem?_eq_getElem h]
  simp only [sumS, List.map_append, List.sum_append, List.map_cons, List.map_nil, List.sum_cons, List.sum_nil, Option.getD_some]
  omega
theorem wf_at {zs : List Int} (hw : ∀ z ∈ zs, (Lit.int .i64 z).wf = true) (k : Nat) : -9223372036854775807 - 1 ≤ zs[k]?.getD 0 ∧ zs[k]?.getD 0 ≤ 9223372036854775807 := by
  cases h : zs[k]? with
  | none => simp
  | some z =>
    have := bounds_i64 (hw z (List.mem_of_getElem? h))
    simp
    omega
def overB (q charge : Int) (zs : List Int) : Bool := decide (q < charge + sumS zs)

/-- the state of the two counts behind k snapshots -/
def OverSt (w0 : World) (B bh bl : Nat) (charge : Int) (zs : List Int) (k : Nat) (w : World) : Prop :=
  ∃ h l : Int, One w bh h ∧ One w bl l ∧ 0 ≤ l ∧ l ≤ 4294967295 ∧ h * 4294967296 + l = charge + sumS (zs.take k) ∧
    -(4294967296 * (2 * (k : Int) + 1)) ≤ h ∧ h ≤ 4294967296 * (2 * (k : Int) + 1) ∧ Below B w0 w

theorem overSt_below {w0 : World} {B bh bl : Nat} {charge : Int} {zs : List Int} {k : Nat} {w : World} (h : OverSt w0 B bh bl charge zs k w) : Below B w0 w := by
  obtain ⟨_, _, _, _, _, _, _, _, _, hb⟩ := h
  exact hb
theorem overSt_start {w0 w1 : World} {B bh bl : Nat} {charge : Int} {zs : List Int} (h1 : One w1 bh (0 + charge / 4294967296 + (0 + charge % 4294967296) / 4294967296)) (h2 : One w1 bl ((0 + charge) % 4294967296))
    (hc : -9223372036854775807 - 1 ≤ charge ∧ charge ≤ 9223372036854775807) (hb : Below B w0 w1) : OverSt w0 B bh bl charge zs 0 w1 :=
  ⟨_, _, h1, h2, by omega, by omega, by simp [sumS]; omega, by omega, by omega, hb⟩
theorem overSt_step {w0 w3 : World} {B bh bl : Nat} {charge h l z : Int} {zs : List Int} {k : Nat}
    (h1 : One w3 bh ((h + z / 4294967296 + (l + z % 4294967296) / 4294967296) + 1 / 4294967296 + ((l + z) % 4294967296 + 1 % 4294967296) / 4294967296)) (h2 : One w3 bl (((l + z) % 4294967296 + 1) % 4294967296))
    (hs : sumS (zs.take (k + 1)) = sumS (zs.take k) + (z + 1)) (p5 : h * 4294967296 + l = charge + sumS (zs.take k)) (p3 : 0 ≤ l) (p4 : l ≤ 4294967295)
    (p6 : -(4294967296 * (2 * (k : Int) + 1)) ≤ h) (p7 : h ≤ 4294967296 * (2 * (k : Int) + 1)) (hz : -9223372036854775807 - 1 ≤ z ∧ z ≤ 9223372036854775807) (hb : Below B w0 w3) : OverSt w0 B bh bl charge zs (k + 1) w3 :=
  ⟨_, _, h1, h2, by omega, by omega, by rw [hs]; omega, by omega, by omega, hb⟩
theorem over_high {q charge h l : Int} {zs : List Int} (p5 : h * 4294967296 + l = charge + sumS zs) (p3 : 0 ≤ l) (p4 : l ≤ 4294967295) (hne : (h != q / 4294967296) = true) :
    Ending.returned (.bool (decide (q / 4294967296 < h))) = .returned (.bool (overB q charge zs)) := by
  have hne' : h ≠ q / 4294967296 := by simpa using hne
  have e : (q / 4294967296 < h) ↔ (q < charge + sumS zs) := by omega
  unfold overB
  rw [decide_eq_decide.2 e]
theorem over_low {q charge h l : Int} {zs : List Int} (p5 : h * 4294967296 + l = charge + sumS zs) (p3 : 0 ≤ l) (p4 : l ≤ 4294967295) (hne : (h != q / 4294967296) = false) :
    Ending.returned (.bool (decide (q % 4294967296 < l))) = .returned (.bool (overB q charge zs)) := by
  have hne' : h = q / 4294967296 := by simpa using hne
  have e : (q % 4294967296 < l) ↔ (q < charge + sumS zs) := by omega
  unfold overB
  rw [decide_eq_decide.2 e]

set_option maxHeartbeats 1000000 in
theorem qOver_any (q charge : Int) (A : Option Addr) (n c : Nat) (zs : List Int) (w : World) (h : IsRow .i64 w A n c zs) (hn : n ≤ 100000) (hq : -9223372036854775807 - 1 ≤ q ∧ q ≤ 9223372036854775807) (hc : -9223372036854775807 - 1 ≤ charge ∧ charge ≤ 9223372036854775807) :
    Calls Tryz.prog 85 #[.int .i64 q, .int .i64 charge, .slice A n c] w fun e w' => e = .returned (.bool (overB q charge zs)) ∧ Below w.heap.size w w' := by
  have hlen := h.len
  have hcap := h.capMax
  have hlc := h.lenCap
  have HWF := Lib.hid h.wf
  have H := Lib.hid h
  have HL := Lib.hid hlen
  clear h hlen
  have o1 : One ((w.alloc (.cells #[.int .i64 0] 3)).alloc (.cells #[.int .i64 0] 3)) w.heap.size 0 := (Below.heap_alloc _ _ _ (by simp)).trans (heap_alloc_new w _)
  have o2 : One ((w.alloc (.cells #[.int .i64 0] 3)).alloc (.cells #[.int .i64 0] 3)) (w.heap.size + 1) 0 := by
    have h1 := heap_alloc_new (w.alloc (.cells #[.int .i64 0] 3)) (.cells #[.int .i64 0] 3)
    have h2 : (w.alloc (.cells #[.int .i64 0] 3)).heap.size = w.heap.size + 1 := by simp
    rw [h2] at h1
    exact h1
  have b1 : Below w.heap.size w ((w.alloc (.cells #[.int .i64 0] 3)).alloc (.cells #[.int .i64 0] 3)) := ((Below.refl _ _).alloc (Nat.le_refl _) _).alloc (by simp) _
  have O1 := Lib.hid o1
  have O2 := Lib.hid o2
  have B1 := Lib.hid b1
  clear o1 o2 b1
  go_enter Tryz.func85, Tryz.ntmps85
  go_wp2_with fail
  refine (qadd_any _ _ (by omega) 0 0 charge _ O1.out O2.out (by omega) (by omega) hc).mono ?_
  rintro e w1 ⟨rfl, ho1, ho2, hb⟩
  have hst : OverSt w w.heap.size w.heap.size (w.heap.size + 1) charge zs 0 w1 := overSt_start ho1 ho2 hc (B1.out.trans (hb _ (Nat.le_refl _) (by omega)))
  have HST := Lib.hid hst
  clear ho1 ho2 hb hst
  go_wp2_with fail
  go_loopw [19] (fun i wr => ∃ k : Nat, k ≤ n ∧ i = .int .i64 k ∧ OverSt w w.heap.size w.heap.size (w.heap.size + 1) charge zs k wr) (fun i _ => n - (intOf i).toNat)
  case atStart => exact ⟨0, Nat.zero_le _, rfl, HST.out⟩
  case round =>
    obtain ⟨k, hk, rfl, hst⟩ := hrel
    by_cases hlt : k < n
    · obtain ⟨x, rfl, -, hx⟩ := (H.out.below (overSt_below hst)).at (by omega)
      have hck := hx k hlt
      have e0 : zs.getD k 0 = zs[k]?.getD 0 := by simp [List.getD]
      rw [e0] at hck
      have hzb := wf_at HWF.out k
      have hs := sumS_take_succ zs k (by rw [HL.out]; exact hlt)
      obtain ⟨h, l, p1, p2, p3, p4, p5, p6, p7, p8⟩ := hst
      clear e0 hx
      generalize zs[k]?.getD 0 = z at hck hzb hs
      have HS := Lib.hid hs
      have P1 := Lib.hid p1
      have P2 := Lib.hid p2
      have P5 := Lib.hid p5
      have P8 := Lib.hid p8
      clear hs p1 p2 p5 p8
      go_wp2_with fail
      refine (qadd_any _ _ (by omega) h l z _ P1.out P2.out (by omega) (by omega) hzb).mono ?_
      rintro e w2 ⟨rfl, ho1, ho2, hb⟩
      have Q1 := Lib.hid ho1
      have Q2 := Lib.hid ho2
      have QB := Lib.hid (hb w.heap.size (Nat.le_refl _) (by omega))
      clear ho1 ho2 hb
      go_wp2_with fail
      refine (qadd_any _ _ (by omega) _ _ 1 _ Q1.out Q2.out (by omega) (by omega) (by omega)).mono ?_
      rintro e w3 ⟨rfl, ho1, ho2, hb⟩
      have hst' : OverSt w w.heap.size w.heap.size (w.heap.size + 1) charge zs (k + 1) w3 := overSt_step ho1 ho2 HS.out P5.out p3 p4 p6 p7 hzb ((P8.out.trans QB.out).trans (hb _ (Nat.le_refl _) (by omega)))
      have HST' := Lib.hid hst'
      clear ho1 ho2 hb hst'
      go_wp2
      go_roundw
      case rel => exact ⟨k + 1, by omega, by go_num, HST'.out⟩
      case measure => simp [intOf]; omega
    · obtain ⟨h, l, p1, p2, p3, p4, p5, p6, p7, p8⟩ := hst
      have e1 : zs.take k = zs := List.take_of_length_le (by rw [HL.out]; omega)
      rw [e1] at p5
      have c1 := p1.cell
      have c2 := p2.cell
      have hmask := i64_mask32
      have P5 := Lib.hid p5
      have P8 := Lib.hid p8
      clear p1 p2 p5 p8 e1
      go_wp2
      all_goals go_ret
      · exact ⟨over_high P5.out p3 p4 ‹_›, P8.out⟩
      · exact ⟨over_low P5.out p3 p4 ‹_›, P8.out⟩

end Go.Proofs.YtnnjmelibmiimaaGreat
