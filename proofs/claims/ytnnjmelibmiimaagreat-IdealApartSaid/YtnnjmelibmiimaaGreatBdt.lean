/-
  IDEAL: delete, turn, step, finish, root: the walks.
-/
import Derived.Test.YtnnjmelibmiimaaGreatBdm
namespace Go.Proofs.YtnnjmelibmiimaaGreat
open Go.RowKit
set_option linter.unusedVariables false
set_option linter.unusedSimpArgs false

def setTu (t : TnP) (b : Bool) : TnP := ⟨t.n, t.sec, t.q, t.now, t.A, t.sn, b⟩
theorem SnB.live {w : World} {O : Tg} {es : List (Nat × Value)} {sn : List (Bk2 × Bool)} (h : SnB w O es sn) : (0 < es.length → liveC sn ≠ []) ∧ (liveC sn ≠ [] → 0 < es.length) := by
  constructor
  · intro h0 e
    obtain ⟨p, r, rfl⟩ : ∃ p r, es = p :: r := by
      cases es with
      | nil => simp at h0
      | cons p r => exact ⟨p, r, rfl⟩
    obtain ⟨i, S, nb, _, h2, _⟩ := h.fwd p (by simp)
    have : chg S ∈ liveC sn := List.mem_map.2 ⟨(S, false), List.mem_filter.2 ⟨List.mem_of_getElem? h2, rfl⟩, rfl⟩
    rw [e] at this
    cases this
  · intro h0
    obtain ⟨z, hz⟩ := List.exists_mem_of_ne_nil _ h0
    obtain ⟨p, hp, _⟩ := List.mem_map.1 hz
    obtain ⟨h1, h2⟩ := List.mem_filter.1 hp
    obtain ⟨i, hi⟩ := List.mem_iff_getElem?.1 h1
    obtain ⟨S, g⟩ := p
    simp only [Bool.not_eq_true'] at h2
    subst h2
    have h3 := h.bwd i S hi
    cases es with
    | nil => simp [lookL] at h3
    | cons p r => simp

section
variable {w : World} {O : Tg} {s blocks m : Nat} {T : List TnP} {bs : List (Nat × TnP)} {c : CallP}
set_option maxRecDepth 100000 in
set_option maxHeartbeats 2000000 in
theorem id_remove_none (h : IdM w O s blocks T m bs) (hc : c.Ok) (hf : fnd bs c.ten = none) :
    Calls Tryz.prog 40 #[.pointer (some ⟨s, 0, none⟩), .agg c.cs] w (DoR s blocks w O (errA 7) T) := by
  have ha : Below w.heap.size w ((w.alloc (.cells #[.int .i64 c.kind, .int .u32 (c.ten : Int), .slice c.sec.A c.sec.n c.sec.c, .int .i64 c.quota, .int .i64 c.n, .int .u64 (c.hd : Int), .int .u64 (c.oth : Int), .int .u64 (c.sn : Int), .int .u8 (c.rt : Int), .slice c.oA c.oN c.oC, .slice c.key.A c.key.n c.key.c, .slice c.frm.A c.frm.n c.frm.c, .slice c.upto.A c.upto.n c.upto.c, .bool c.back] 36)).alloc (.cells #[.int .i64 0, .int .u64 0, .int .u64 0, .slice none 0 0, .slice none 0 0, .int .i64 0, .slice none 0 0] 40)) := ((Below.refl _ _).alloc (Nat.le_refl _) _).alloc (by simp) _
  have hcb : CbB ((w.alloc (.cells #[.int .i64 c.kind, .int .u32 (c.ten : Int), .slice c.sec.A c.sec.n c.sec.c, .int .i64 c.quota, .int .i64 c.n, .int .u64 (c.hd : Int), .int .u64 (c.oth : Int), .int .u64 (c.sn : Int), .int .u8 (c.rt : Int), .slice c.oA c.oN c.oC, .slice c.key.A c.key.n c.key.c, .slice c.frm.A c.frm.n c.frm.c, .slice c.upto.A c.upto.n c.upto.c, .bool c.back] 36)).alloc (.cells #[.int .i64 0, .int .u64 0, .int .u64 0, .slice none 0 0, .slice none 0 0, .int .i64 0, .slice none 0 0] 40)) w.heap.size 36 c.cs := (CbB.new w _ _).ab ((Below.refl _ _).alloc (Nat.le_refl _) _)
  have hqb : CbB ((w.alloc (.cells #[.int .i64 c.kind, .int .u32 (c.ten : Int), .slice c.sec.A c.sec.n c.sec.c, .int .i64 c.quota, .int .i64 c.n, .int .u64 (c.hd : Int), .int .u64 (c.oth : Int), .int .u64 (c.sn : Int), .int .u8 (c.rt : Int), .slice c.oA c.oN c.oC, .slice c.key.A c.key.n c.key.c, .slice c.frm.A c.frm.n c.frm.c, .slice c.upto.A c.upto.n c.upto.c, .bool c.back] 36)).alloc (.cells #[.int .i64 0, .int .u64 0, .int .u64 0, .slice none 0 0, .slice none 0 0, .int .i64 0, .slice none 0 0] 40)) (w.heap.size + 1) 40 (ansE 0) := CbB.newI (by simp)
  unfold CallP.cs at hcb ⊢
  go_enter Tryz.func40, Tryz.ntmps40
  go_upto_region 1 with (fail)
  obtain ⟨w0, hw0⟩ : ∃ w0, ((w.alloc (.cells #[.int .i64 c.kind, .int .u32 (c.ten : Int), .slice c.sec.A c.sec.n c.sec.c, .int .i64 c.quota, .int .i64 c.n, .int .u64 (c.hd : Int), .int .u64 (c.oth : Int), .int .u64 (c.sn : Int), .int .u8 (c.rt : Int), .slice c.oA c.oN c.oC, .slice c.key.A c.key.n c.key.c, .slice c.frm.A c.frm.n c.frm.c, .slice c.upto.A c.upto.n c.upto.c, .bool c.back] 36)).alloc (.cells #[.int .i64 0, .int .u64 0, .int .u64 0, .slice none 0 0, .slice none 0 0, .int .i64 0, .slice none 0 0] 40)) = w0 := ⟨_, rfl⟩
  rw [hw0] at ha hcb hqb ⊢
  clear hw0
  have c1 := (hcb).cell (k := 1) rfl
  have hlk := fun k : Nat => map_look (w := w0.drewN k) ((h.map.ab ha).same rfl) (n := c.ten) hc.ten
  simp only [hf, Option.map_none] at hlk
  have s1 := (h.box.ab ha).cell (k := 1) rfl
  have HA := Lib.hid ha
  have HQ := Lib.hid hqb
  have HB := Lib.hid hcb
  have M0 := h.stp (Stp.cut ha (fun _ => False)) fun _ h => h
  have HM := Lib.hid M0
  have HF := Lib.hid fun W => fails_any 7 W
  clear h ha hqb hcb hc M0 hf
  go_quiet (fail)
  go_wp2_with fail
  refine (HF.out _).mono ?_
  rintro e w1 ⟨rfl, hb⟩
  have B1 : Hid (Below w0.heap.size w0 w1) := Lib.hid ((bel_drewN (Below.refl _ _) _).trans hb)
  have Q1 := Lib.hid (HQ.out.ab B1.out)
  have M1 := Lib.hid (HM.out.stp (Stp.of B1.out (fun _ => False) fun _ _ => rfl) fun _ h => h)
  have S1 : Hid (Stp (fun τ => τ.1 = s) w O w1 (cutTg O w.heap.size)) := Lib.hid ((Stp.cut HA.out _).ab B1.out)
  clear hb HQ HM B1
  go_wp2_with (first
    | (with_reducible refine wpList_storeC (o := ⟨none, .store _ (.tmp 4) (.tmp 13), _, _, _, _⟩) ?_ 40 (.tmp 4) (.tmp 13) ?_ (w.heap.size + 1) ?_ (ansE 7) ?_ (cs := ansE 0) (t := 40) Q1.out (szAnsE _) ?_ (ansE_one _) ?_
       · rfl
       · rfl
       · rfl
       · rfl
       · rfl
       intro wz hwz
       have QZ : Hid (CbB wz (w.heap.size + 1) 40 (ansE 7)) := Lib.hid (by rw [hwz]; exact CbB.row Q1.out _)
       have FZ : Hid (Fr w1 wz (fun k => k = (w.heap.size + 1))) := Lib.hid (by rw [hwz]; exact fr_rowX _ _ _)
       clear hwz))
  refine bodyPost_ret (ans_results Tryz.results40 _ _ (w.heap.size + 1) (ansE 7) rfl QZ.out rfl) rfl ?_
  exact DoR.flat 7 0 0 0 ⟨m, bs, M1.out.stp (Stp.box FZ.out (cutTg_at (Nat.le_succ _))) fun i e => by have := M1.out.pos; injection e with e; omega⟩ (S1.out.fresh FZ.out (Nat.le_succ _))
set_option maxRecDepth 100000 in
set_option maxHeartbeats 2000000 in
theorem id_turn_none (h : IdM w O s blocks T m bs) (hc : c.Ok) (hf : fnd bs c.ten = none) :
    Calls Tryz.prog 41 #[.pointer (some ⟨s, 0, none⟩), .agg c.cs] w (DoR s blocks w O (errA 7) T) := by
  have ha : Below w.heap.size w ((w.alloc (.cells #[.int .i64 c.kind, .int .u32 (c.ten : Int), .slice c.sec.A c.sec.n c.sec.c, .int .i64 c.quota, .int .i64 c.n, .int .u64 (c.hd : Int), .int .u64 (c.oth : Int), .int .u64 (c.sn : Int), .int .u8 (c.rt : Int), .slice c.oA c.oN c.oC, .slice c.key.A c.key.n c.key.c, .slice c.frm.A c.frm.n c.frm.c, .slice c.upto.A c.upto.n c.upto.c, .bool c.back] 36)).alloc (.cells #[.int .i64 0, .int .u64 0, .int .u64 0, .slice none 0 0, .slice none 0 0, .int .i64 0, .slice none 0 0] 40)) := ((Below.refl _ _).alloc (Nat.le_refl _) _).alloc (by simp) _
  have hcb : CbB ((w.alloc (.cells #[.int .i64 c.kind, .int .u32 (c.ten : Int), .slice c.sec.A c.sec.n c.sec.c, .int .i64 c.quota, .int .i64 c.n, .int .u64 (c.hd : Int), .int .u64 (c.oth : Int), .int .u64 (c.sn : Int), .int .u8 (c.rt : Int), .slice c.oA c.oN c.oC, .slice c.key.A c.key.n c.key.c, .slice c.frm.A c.frm.n c.frm.c, .slice c.upto.A c.upto.n c.upto.c, .bool c.back] 36)).alloc (.cells #[.int .i64 0, .int .u64 0, .int .u64 0, .slice none 0 0, .slice none 0 0, .int .i64 0, .slice none 0 0] 40)) w.heap.size 36 c.cs := (CbB.new w _ _).ab ((Below.refl _ _).alloc (Nat.le_refl _) _)
  have hqb : CbB ((w.alloc (.cells #[.int .i64 c.kind, .int .u32 (c.ten : Int), .slice c.sec.A c.sec.n c.sec.c, .int .i64 c.quota, .int .i64 c.n, .int .u64 (c.hd : Int), .int .u64 (c.oth : Int), .int .u64 (c.sn : Int), .int .u8 (c.rt : Int), .slice c.oA c.oN c.oC, .slice c.key.A c.key.n c.key.c, .slice c.frm.A c.frm.n c.frm.c, .slice c.upto.A c.upto.n c.upto.c, .bool c.back] 36)).alloc (.cells #[.int .i64 0, .int .u64 0, .int .u64 0, .slice none 0 0, .slice none 0 0, .int .i64 0, .slice none 0 0] 40)) (w.heap.size + 1) 40 (ansE 0) := CbB.newI (by simp)
  unfold CallP.cs at hcb ⊢
  go_enter Tryz.func41, Tryz.ntmps41
  go_upto_region 1 with (fail)
  obtain ⟨w0, hw0⟩ : ∃ w0, ((w.alloc (.cells #[.int .i64 c.kind, .int .u32 (c.ten : Int), .slice c.sec.A c.sec.n c.sec.c, .int .i64 c.quota, .int .i64 c.n, .int .u64 (c.hd : Int), .int .u64 (c.oth : Int), .int .u64 (c.sn : Int), .int .u8 (c.rt : Int), .slice c.oA c.oN c.oC, .slice c.key.A c.key.n c.key.c, .slice c.frm.A c.frm.n c.frm.c, .slice c.upto.A c.upto.n c.upto.c, .bool c.back] 36)).alloc (.cells #[.int .i64 0, .int .u64 0, .int .u64 0, .slice none 0 0, .slice none 0 0, .int .i64 0, .slice none 0 0] 40)) = w0 := ⟨_, rfl⟩
  rw [hw0] at ha hcb hqb ⊢
  clear hw0
  have c1 := (hcb).cell (k := 1) rfl
  have hlk := fun k : Nat => map_look (w := w0.drewN k) ((h.map.ab ha).same rfl) (n := c.ten) hc.ten
  simp only [hf, Option.map_none] at hlk
  have s1 := (h.box.ab ha).cell (k := 1) rfl
  have HA := Lib.hid ha
  have HQ := Lib.hid hqb
  have HB := Lib.hid hcb
  have M0 := h.stp (Stp.cut ha (fun _ => False)) fun _ h => h
  have HM := Lib.hid M0
  have HF := Lib.hid fun W => fails_any 7 W
  clear h ha hqb hcb hc M0 hf
  go_quiet (fail)
  go_wp2_with fail
  refine (HF.out _).mono ?_
  rintro e w1 ⟨rfl, hb⟩
  have B1 : Hid (Below w0.heap.size w0 w1) := Lib.hid ((bel_drewN (Below.refl _ _) _).trans hb)
  have Q1 := Lib.hid (HQ.out.ab B1.out)
  have M1 := Lib.hid (HM.out.stp (Stp.of B1.out (fun _ => False) fun _ _ => rfl) fun _ h => h)
  have S1 : Hid (Stp (fun τ => τ.1 = s) w O w1 (cutTg O w.heap.size)) := Lib.hid ((Stp.cut HA.out _).ab B1.out)
  clear hb HQ HM B1
  go_wp2_with (first
    | (with_reducible refine wpList_storeC (o := ⟨none, .store _ (.tmp 4) (.tmp 16), _, _, _, _⟩) ?_ 40 (.tmp 4) (.tmp 16) ?_ (w.heap.size + 1) ?_ (ansE 7) ?_ (cs := ansE 0) (t := 40) Q1.out (szAnsE _) ?_ (ansE_one _) ?_
       · rfl
       · rfl
       · rfl
       · rfl
       · rfl
       intro wz hwz
       have QZ : Hid (CbB wz (w.heap.size + 1) 40 (ansE 7)) := Lib.hid (by rw [hwz]; exact CbB.row Q1.out _)
       have FZ : Hid (Fr w1 wz (fun k => k = (w.heap.size + 1))) := Lib.hid (by rw [hwz]; exact fr_rowX _ _ _)
       clear hwz))
  refine bodyPost_ret (ans_results Tryz.results41 _ _ (w.heap.size + 1) (ansE 7) rfl QZ.out rfl) rfl ?_
  exact DoR.flat 7 0 0 0 ⟨m, bs, M1.out.stp (Stp.box FZ.out (cutTg_at (Nat.le_succ _))) fun i e => by have := M1.out.pos; injection e with e; omega⟩ (S1.out.fresh FZ.out (Nat.le_succ _))
set_option maxRecDepth 100000 in
set_option maxHeartbeats 2000000 in
theorem id_step_none (h : IdM w O s blocks T m bs) (hc : c.Ok) (hf : fnd bs c.ten = none) :
    Calls Tryz.prog 42 #[.pointer (some ⟨s, 0, none⟩), .agg c.cs] w (DoR s blocks w O (errA 7) T) := by
  have ha : Below w.heap.size w ((w.alloc (.cells #[.int .i64 c.kind, .int .u32 (c.ten : Int), .slice c.sec.A c.sec.n c.sec.c, .int .i64 c.quota, .int .i64 c.n, .int .u64 (c.hd : Int), .int .u64 (c.oth : Int), .int .u64 (c.sn : Int), .int .u8 (c.rt : Int), .slice c.oA c.oN c.oC, .slice c.key.A c.key.n c.key.c, .slice c.frm.A c.frm.n c.frm.c, .slice c.upto.A c.upto.n c.upto.c, .bool c.back] 36)).alloc (.cells #[.int .i64 0, .int .u64 0, .int .u64 0, .slice none 0 0, .slice none 0 0, .int .i64 0, .slice none 0 0] 40)) := ((Below.refl _ _).alloc (Nat.le_refl _) _).alloc (by simp) _
  have hcb : CbB ((w.alloc (.cells #[.int .i64 c.kind, .int .u32 (c.ten : Int), .slice c.sec.A c.sec.n c.sec.c, .int .i64 c.quota, .int .i64 c.n, .int .u64 (c.hd : Int), .int .u64 (c.oth : Int), .int .u64 (c.sn : Int), .int .u8 (c.rt : Int), .slice c.oA c.oN c.oC, .slice c.key.A c.key.n c.key.c, .slice c.frm.A c.frm.n c.frm.c, .slice c.upto.A c.upto.n c.upto.c, .bool c.back] 36)).alloc (.cells #[.int .i64 0, .int .u64 0, .int .u64 0, .slice none 0 0, .slice none 0 0, .int .i64 0, .slice none 0 0] 40)) w.heap.size 36 c.cs := (CbB.new w _ _).ab ((Below.refl _ _).alloc (Nat.le_refl _) _)
  have hqb : CbB ((w.alloc (.cells #[.int .i64 c.kind, .int .u32 (c.ten : Int), .slice c.sec.A c.sec.n c.sec.c, .int .i64 c.quota, .int .i64 c.n, .int .u64 (c.hd : Int), .int .u64 (c.oth : Int), .int .u64 (c.sn : Int), .int .u8 (c.rt : Int), .slice c.oA c.oN c.oC, .slice c.key.A c.key.n c.key.c, .slice c.frm.A c.frm.n c.frm.c, .slice c.upto.A c.upto.n c.upto.c, .bool c.back] 36)).alloc (.cells #[.int .i64 0, .int .u64 0, .int .u64 0, .slice none 0 0, .slice none 0 0, .int .i64 0, .slice none 0 0] 40)) (w.heap.size + 1) 40 (ansE 0) := CbB.newI (by simp)
  unfold CallP.cs at hcb ⊢
  go_enter Tryz.func42, Tryz.ntmps42
  go_upto_region 1 with (fail)
  obtain ⟨w0, hw0⟩ : ∃ w0, ((w.alloc (.cells #[.int .i64 c.kind, .int .u32 (c.ten : Int), .slice c.sec.A c.sec.n c.sec.c, .int .i64 c.quota, .int .i64 c.n, .int .u64 (c.hd : Int), .int .u64 (c.oth : Int), .int .u64 (c.sn : Int), .int .u8 (c.rt : Int), .slice c.oA c.oN c.oC, .slice c.key.A c.key.n c.key.c, .slice c.frm.A c.frm.n c.frm.c, .slice c.upto.A c.upto.n c.upto.c, .bool c.back] 36)).alloc (.cells #[.int .i64 0, .int .u64 0, .int .u64 0, .slice none 0 0, .slice none 0 0, .int .i64 0, .slice none 0 0] 40)) = w0 := ⟨_, rfl⟩
  rw [hw0] at ha hcb hqb ⊢
  clear hw0
  have c1 := (hcb).cell (k := 1) rfl
  have hlk := fun k : Nat => map_look (w := w0.drewN k) ((h.map.ab ha).same rfl) (n := c.ten) hc.ten
  simp only [hf, Option.map_none] at hlk
  have s1 := (h.box.ab ha).cell (k := 1) rfl
  have HA := Lib.hid ha
  have HQ := Lib.hid hqb
  have HB := Lib.hid hcb
  have M0 := h.stp (Stp.cut ha (fun _ => False)) fun _ h => h
  have HM := Lib.hid M0
  have HF := Lib.hid fun W => fails_any 7 W
  clear h ha hqb hcb hc M0 hf
  go_quiet (fail)
  go_wp2_with fail
  refine (HF.out _).mono ?_
  rintro e w1 ⟨rfl, hb⟩
  have B1 : Hid (Below w0.heap.size w0 w1) := Lib.hid ((bel_drewN (Below.refl _ _) _).trans hb)
  have Q1 := Lib.hid (HQ.out.ab B1.out)
  have M1 := Lib.hid (HM.out.stp (Stp.of B1.out (fun _ => False) fun _ _ => rfl) fun _ h => h)
  have S1 : Hid (Stp (fun τ => τ.1 = s) w O w1 (cutTg O w.heap.size)) := Lib.hid ((Stp.cut HA.out _).ab B1.out)
  clear hb HQ HM B1
  go_wp2_with (first
    | (with_reducible refine wpList_storeC (o := ⟨none, .store _ (.tmp 4) (.tmp 16), _, _, _, _⟩) ?_ 40 (.tmp 4) (.tmp 16) ?_ (w.heap.size + 1) ?_ (ansE 7) ?_ (cs := ansE 0) (t := 40) Q1.out (szAnsE _) ?_ (ansE_one _) ?_
       · rfl
       · rfl
       · rfl
       · rfl
       · rfl
       intro wz hwz
       have QZ : Hid (CbB wz (w.heap.size + 1) 40 (ansE 7)) := Lib.hid (by rw [hwz]; exact CbB.row Q1.out _)
       have FZ : Hid (Fr w1 wz (fun k => k = (w.heap.size + 1))) := Lib.hid (by rw [hwz]; exact fr_rowX _ _ _)
       clear hwz))
  refine bodyPost_ret (ans_results Tryz.results42 _ _ (w.heap.size + 1) (ansE 7) rfl QZ.out rfl) rfl ?_
  exact DoR.flat 7 0 0 0 ⟨m, bs, M1.out.stp (Stp.box FZ.out (cutTg_at (Nat.le_succ _))) fun i e => by have := M1.out.pos; injection e with e; omega⟩ (S1.out.fresh FZ.out (Nat.le_succ _))
set_option maxRecDepth 100000 in
set_option maxHeartbeats 2000000 in
theorem id_finish_none (h : IdM w O s blocks T m bs) (hc : c.Ok) (hf : fnd bs c.ten = none) :
    Calls Tryz.prog 43 #[.pointer (some ⟨s, 0, none⟩), .agg c.cs] w (DoR s blocks w O (errA 7) T) := by
  have ha : Below w.heap.size w ((w.alloc (.cells #[.int .i64 c.kind, .int .u32 (c.ten : Int), .slice c.sec.A c.sec.n c.sec.c, .int .i64 c.quota, .int .i64 c.n, .int .u64 (c.hd : Int), .int .u64 (c.oth : Int), .int .u64 (c.sn : Int), .int .u8 (c.rt : Int), .slice c.oA c.oN c.oC, .slice c.key.A c.key.n c.key.c, .slice c.frm.A c.frm.n c.frm.c, .slice c.upto.A c.upto.n c.upto.c, .bool c.back] 36)).alloc (.cells #[.int .i64 0, .int .u64 0, .int .u64 0, .slice none 0 0, .slice none 0 0, .int .i64 0, .slice none 0 0] 40)) := ((Below.refl _ _).alloc (Nat.le_refl _) _).alloc (by simp) _
  have hcb : CbB ((w.alloc (.cells #[.int .i64 c.kind, .int .u32 (c.ten : Int), .slice c.sec.A c.sec.n c.sec.c, .int .i64 c.quota, .int .i64 c.n, .int .u64 (c.hd : Int), .int .u64 (c.oth : Int), .int .u64 (c.sn : Int), .int .u8 (c.rt : Int), .slice c.oA c.oN c.oC, .slice c.key.A c.key.n c.key.c, .slice c.frm.A c.frm.n c.frm.c, .slice c.upto.A c.upto.n c.upto.c, .bool c.back] 36)).alloc (.cells #[.int .i64 0, .int .u64 0, .int .u64 0, .slice none 0 0, .slice none 0 0, .int .i64 0, .slice none 0 0] 40)) w.heap.size 36 c.cs := (CbB.new w _ _).ab ((Below.refl _ _).alloc (Nat.le_refl _) _)
  have hqb : CbB ((w.alloc (.cells #[.int .i64 c.kind, .int .u32 (c.ten : Int), .slice c.sec.A c.sec.n c.sec.c, .int .i64 c.quota, .int .i64 c.n, .int .u64 (c.hd : Int), .int .u64 (c.oth : Int), .int .u64 (c.sn : Int), .int .u8 (c.rt : Int), .slice c.oA c.oN c.oC, .slice c.key.A c.key.n c.key.c, .slice c.frm.A c.frm.n c.frm.c, .slice c.upto.A c.upto.n c.upto.c, .bool c.back] 36)).alloc (.cells #[.int .i64 0, .int .u64 0, .int .u64 0, .slice none 0 0, .slice none 0 0, .int .i64 0, .slice none 0 0] 40)) (w.heap.size + 1) 40 (ansE 0) := CbB.newI (by simp)
  unfold CallP.cs at hcb ⊢
  go_enter Tryz.func43, Tryz.ntmps43
  go_upto_region 1 with (fail)
  obtain ⟨w0, hw0⟩ : ∃ w0, ((w.alloc (.cells #[.int .i64 c.kind, .int .u32 (c.ten : Int), .slice c.sec.A c.sec.n c.sec.c, .int .i64 c.quota, .int .i64 c.n, .int .u64 (c.hd : Int), .int .u64 (c.oth : Int), .int .u64 (c.sn : Int), .int .u8 (c.rt : Int), .slice c.oA c.oN c.oC, .slice c.key.A c.key.n c.key.c, .slice c.frm.A c.frm.n c.frm.c, .slice c.upto.A c.upto.n c.upto.c, .bool c.back] 36)).alloc (.cells #[.int .i64 0, .int .u64 0, .int .u64 0, .slice none 0 0, .slice none 0 0, .int .i64 0, .slice none 0 0] 40)) = w0 := ⟨_, rfl⟩
  rw [hw0] at ha hcb hqb ⊢
  clear hw0
  have c1 := (hcb).cell (k := 1) rfl
  have hlk := fun k : Nat => map_look (w := w0.drewN k) ((h.map.ab ha).same rfl) (n := c.ten) hc.ten
  simp only [hf, Option.map_none] at hlk
  have s1 := (h.box.ab ha).cell (k := 1) rfl
  have HA := Lib.hid ha
  have HQ := Lib.hid hqb
  have HB := Lib.hid hcb
  have M0 := h.stp (Stp.cut ha (fun _ => False)) fun _ h => h
  have HM := Lib.hid M0
  have HF := Lib.hid fun W => fails_any 7 W
  clear h ha hqb hcb hc M0 hf
  go_quiet (fail)
  go_wp2_with fail
  refine (HF.out _).mono ?_
  rintro e w1 ⟨rfl, hb⟩
  have B1 : Hid (Below w0.heap.size w0 w1) := Lib.hid ((bel_drewN (Below.refl _ _) _).trans hb)
  have Q1 := Lib.hid (HQ.out.ab B1.out)
  have M1 := Lib.hid (HM.out.stp (Stp.of B1.out (fun _ => False) fun _ _ => rfl) fun _ h => h)
  have S1 : Hid (Stp (fun τ => τ.1 = s) w O w1 (cutTg O w.heap.size)) := Lib.hid ((Stp.cut HA.out _).ab B1.out)
  clear hb HQ HM B1
  go_wp2_with (first
    | (with_reducible refine wpList_storeC (o := ⟨none, .store _ (.tmp 4) (.tmp 16), _, _, _, _⟩) ?_ 40 (.tmp 4) (.tmp 16) ?_ (w.heap.size + 1) ?_ (ansE 7) ?_ (cs := ansE 0) (t := 40) Q1.out (szAnsE _) ?_ (ansE_one _) ?_
       · rfl
       · rfl
       · rfl
       · rfl
       · rfl
       intro wz hwz
       have QZ : Hid (CbB wz (w.heap.size + 1) 40 (ansE 7)) := Lib.hid (by rw [hwz]; exact CbB.row Q1.out _)
       have FZ : Hid (Fr w1 wz (fun k => k = (w.heap.size + 1))) := Lib.hid (by rw [hwz]; exact fr_rowX _ _ _)
       clear hwz))
  refine bodyPost_ret (ans_results Tryz.results43 _ _ (w.heap.size + 1) (ansE 7) rfl QZ.out rfl) rfl ?_
  exact DoR.flat 7 0 0 0 ⟨m, bs, M1.out.stp (Stp.box FZ.out (cutTg_at (Nat.le_succ _))) fun i e => by have := M1.out.pos; injection e with e; omega⟩ (S1.out.fresh FZ.out (Nat.le_succ _))
set_option maxRecDepth 100000 in
set_option maxHeartbeats 2000000 in
theorem id_turn_busy (x : Nat × TnP) (h : IdM w O s blocks T m bs) (hc : c.Ok) (hf : fnd bs c.ten = some x) (hu : x.2.tu = true) :
    Calls Tryz.prog 41 #[.pointer (some ⟨s, 0, none⟩), .agg c.cs] w (DoR s blocks w O (errA 263) T) := by
  obtain ⟨cb, mo, sm, nb, es, ht⟩ := h.all x (fnd_mem hf).1
  have ha : Below w.heap.size w ((w.alloc (.cells #[.int .i64 c.kind, .int .u32 (c.ten : Int), .slice c.sec.A c.sec.n c.sec.c, .int .i64 c.quota, .int .i64 c.n, .int .u64 (c.hd : Int), .int .u64 (c.oth : Int), .int .u64 (c.sn : Int), .int .u8 (c.rt : Int), .slice c.oA c.oN c.oC, .slice c.key.A c.key.n c.key.c, .slice c.frm.A c.frm.n c.frm.c, .slice c.upto.A c.upto.n c.upto.c, .bool c.back] 36)).alloc (.cells #[.int .i64 0, .int .u64 0, .int .u64 0, .slice none 0 0, .slice none 0 0, .int .i64 0, .slice none 0 0] 40)) := ((Below.refl _ _).alloc (Nat.le_refl _) _).alloc (by simp) _
  have hcb : CbB ((w.alloc (.cells #[.int .i64 c.kind, .int .u32 (c.ten : Int), .slice c.sec.A c.sec.n c.sec.c, .int .i64 c.quota, .int .i64 c.n, .int .u64 (c.hd : Int), .int .u64 (c.oth : Int), .int .u64 (c.sn : Int), .int .u8 (c.rt : Int), .slice c.oA c.oN c.oC, .slice c.key.A c.key.n c.key.c, .slice c.frm.A c.frm.n c.frm.c, .slice c.upto.A c.upto.n c.upto.c, .bool c.back] 36)).alloc (.cells #[.int .i64 0, .int .u64 0, .int .u64 0, .slice none 0 0, .slice none 0 0, .int .i64 0, .slice none 0 0] 40)) w.heap.size 36 c.cs := (CbB.new w _ _).ab ((Below.refl _ _).alloc (Nat.le_refl _) _)
  have hqb : CbB ((w.alloc (.cells #[.int .i64 c.kind, .int .u32 (c.ten : Int), .slice c.sec.A c.sec.n c.sec.c, .int .i64 c.quota, .int .i64 c.n, .int .u64 (c.hd : Int), .int .u64 (c.oth : Int), .int .u64 (c.sn : Int), .int .u8 (c.rt : Int), .slice c.oA c.oN c.oC, .slice c.key.A c.key.n c.key.c, .slice c.frm.A c.frm.n c.frm.c, .slice c.upto.A c.upto.n c.upto.c, .bool c.back] 36)).alloc (.cells #[.int .i64 0, .int .u64 0, .int .u64 0, .slice none 0 0, .slice none 0 0, .int .i64 0, .slice none 0 0] 40)) (w.heap.size + 1) 40 (ansE 0) := CbB.newI (by simp)
  unfold CallP.cs at hcb ⊢
  go_enter Tryz.func41, Tryz.ntmps41
  go_upto_region 1 with (fail)
  obtain ⟨w0, hw0⟩ : ∃ w0, ((w.alloc (.cells #[.int .i64 c.kind, .int .u32 (c.ten : Int), .slice c.sec.A c.sec.n c.sec.c, .int .i64 c.quota, .int .i64 c.n, .int .u64 (c.hd : Int), .int .u64 (c.oth : Int), .int .u64 (c.sn : Int), .int .u8 (c.rt : Int), .slice c.oA c.oN c.oC, .slice c.key.A c.key.n c.key.c, .slice c.frm.A c.frm.n c.frm.c, .slice c.upto.A c.upto.n c.upto.c, .bool c.back] 36)).alloc (.cells #[.int .i64 0, .int .u64 0, .int .u64 0, .slice none 0 0, .slice none 0 0, .int .i64 0, .slice none 0 0] 40)) = w0 := ⟨_, rfl⟩
  rw [hw0] at ha hcb hqb ⊢
  clear hw0
  have c1 := (hcb).cell (k := 1) rfl
  have hlk := fun k : Nat => map_look (w := w0.drewN k) ((h.map.ab ha).same rfl) (n := c.ten) hc.ten
  simp only [hf, Option.map_some] at hlk
  have s1 := (h.box.ab ha).cell (k := 1) rfl
  have d4 := (ht.box.ab ha).cell (k := 4) rfl
  have d6 := (ht.box.ab ha).cell (k := 6) rfl
  have f6 := (ht.box.ab ha).free 6
  have TT := Lib.hid fun k => ht.stp (Stp.cut (bel_drewN ha k) (fun _ => False)) fun h => h
  have HMW := Lib.hid h
  have HTW := Lib.hid ht
  have HFN := Lib.hid hf
  have OKX := Lib.hid (h.ok x (fnd_mem hf).1)
  rw [hu] at d6
  have HA := Lib.hid ha
  have HQ := Lib.hid hqb
  have HB := Lib.hid hcb
  have M0 := h.stp (Stp.cut ha (fun _ => False)) fun _ h => h
  have HM := Lib.hid M0
  have HF := Lib.hid fun W => fails_any 263 W
  clear h ha hqb hcb hc M0 hf ht hu
  go_quiet (fail)
  go_wp2_with fail
  refine (HF.out _).mono ?_
  rintro e w1 ⟨rfl, hb⟩
  have B1 : Hid (Below w0.heap.size w0 w1) := Lib.hid ((bel_drewN (Below.refl _ _) _).trans hb)
  have Q1 := Lib.hid (HQ.out.ab B1.out)
  have M1 := Lib.hid (HM.out.stp (Stp.of B1.out (fun _ => False) fun _ _ => rfl) fun _ h => h)
  have S1 : Hid (Stp (fun τ => τ.1 = s) w O w1 (cutTg O w.heap.size)) := Lib.hid ((Stp.cut HA.out _).ab B1.out)
  clear hb HQ HM B1
  go_wp2_with (first
    | (with_reducible refine wpList_storeC (o := ⟨none, .store _ (.tmp 4) (.tmp 22), _, _, _, _⟩) ?_ 40 (.tmp 4) (.tmp 22) ?_ (w.heap.size + 1) ?_ (ansE 263) ?_ (cs := ansE 0) (t := 40) Q1.out (szAnsE _) ?_ (ansE_one _) ?_
       · rfl
       · rfl
       · rfl
       · rfl
       · rfl
       intro wz hwz
       have QZ : Hid (CbB wz (w.heap.size + 1) 40 (ansE 263)) := Lib.hid (by rw [hwz]; exact CbB.row Q1.out _)
       have FZ : Hid (Fr w1 wz (fun k => k = (w.heap.size + 1))) := Lib.hid (by rw [hwz]; exact fr_rowX _ _ _)
       clear hwz))
  refine bodyPost_ret (ans_results Tryz.results41 _ _ (w.heap.size + 1) (ansE 263) rfl QZ.out rfl) rfl ?_
  exact DoR.flat 263 0 0 0 ⟨m, bs, M1.out.stp (Stp.box FZ.out (cutTg_at (Nat.le_succ _))) fun i e => by have := M1.out.pos; injection e with e; omega⟩ (S1.out.fresh FZ.out (Nat.le_succ _))
set_option maxRecDepth 100000 in
set_option maxHeartbeats 2000000 in
theorem id_step_low (x : Nat × TnP) (h : IdM w O s blocks T m bs) (hc : c.Ok) (hf : fnd bs c.ten = some x) (n0 : decide (c.n < 1) = true) :
    Calls Tryz.prog 42 #[.pointer (some ⟨s, 0, none⟩), .agg c.cs] w (DoR s blocks w O (errA 2) T) := by
  obtain ⟨cb, mo, sm, nb, es, ht⟩ := h.all x (fnd_mem hf).1
  have ha : Below w.heap.size w ((w.alloc (.cells #[.int .i64 c.kind, .int .u32 (c.ten : Int), .slice c.sec.A c.sec.n c.sec.c, .int .i64 c.quota, .int .i64 c.n, .int .u64 (c.hd : Int), .int .u64 (c.oth : Int), .int .u64 (c.sn : Int), .int .u8 (c.rt : Int), .slice c.oA c.oN c.oC, .slice c.key.A c.key.n c.key.c, .slice c.frm.A c.frm.n c.frm.c, .slice c.upto.A c.upto.n c.upto.c, .bool c.back] 36)).alloc (.cells #[.int .i64 0, .int .u64 0, .int .u64 0, .slice none 0 0, .slice none 0 0, .int .i64 0, .slice none 0 0] 40)) := ((Below.refl _ _).alloc (Nat.le_refl _) _).alloc (by simp) _
  have hcb : CbB ((w.alloc (.cells #[.int .i64 c.kind, .int .u32 (c.ten : Int), .slice c.sec.A c.sec.n c.sec.c, .int .i64 c.quota, .int .i64 c.n, .int .u64 (c.hd : Int), .int .u64 (c.oth : Int), .int .u64 (c.sn : Int), .int .u8 (c.rt : Int), .slice c.oA c.oN c.oC, .slice c.key.A c.key.n c.key.c, .slice c.frm.A c.frm.n c.frm.c, .slice c.upto.A c.upto.n c.upto.c, .bool c.back] 36)).alloc (.cells #[.int .i64 0, .int .u64 0, .int .u64 0, .slice none 0 0, .slice none 0 0, .int .i64 0, .slice none 0 0] 40)) w.heap.size 36 c.cs := (CbB.new w _ _).ab ((Below.refl _ _).alloc (Nat.le_refl _) _)
  have hqb : CbB ((w.alloc (.cells #[.int .i64 c.kind, .int .u32 (c.ten : Int), .slice c.sec.A c.sec.n c.sec.c, .int .i64 c.quota, .int .i64 c.n, .int .u64 (c.hd : Int), .int .u64 (c.oth : Int), .int .u64 (c.sn : Int), .int .u8 (c.rt : Int), .slice c.oA c.oN c.oC, .slice c.key.A c.key.n c.key.c, .slice c.frm.A c.frm.n c.frm.c, .slice c.upto.A c.upto.n c.upto.c, .bool c.back] 36)).alloc (.cells #[.int .i64 0, .int .u64 0, .int .u64 0, .slice none 0 0, .slice none 0 0, .int .i64 0, .slice none 0 0] 40)) (w.heap.size + 1) 40 (ansE 0) := CbB.newI (by simp)
  unfold CallP.cs at hcb ⊢
  go_enter Tryz.func42, Tryz.ntmps42
  go_upto_region 1 with (fail)
  obtain ⟨w0, hw0⟩ : ∃ w0, ((w.alloc (.cells #[.int .i64 c.kind, .int .u32 (c.ten : Int), .slice c.sec.A c.sec.n c.sec.c, .int .i64 c.quota, .int .i64 c.n, .int .u64 (c.hd : Int), .int .u64 (c.oth : Int), .int .u64 (c.sn : Int), .int .u8 (c.rt : Int), .slice c.oA c.oN c.oC, .slice c.key.A c.key.n c.key.c, .slice c.frm.A c.frm.n c.frm.c, .slice c.upto.A c.upto.n c.upto.c, .bool c.back] 36)).alloc (.cells #[.int .i64 0, .int .u64 0, .int .u64 0, .slice none 0 0, .slice none 0 0, .int .i64 0, .slice none 0 0] 40)) = w0 := ⟨_, rfl⟩
  rw [hw0] at ha hcb hqb ⊢
  clear hw0
  have c1 := (hcb).cell (k := 1) rfl
  have c4 := (hcb).cell (k := 4) rfl
  have hlk := fun k : Nat => map_look (w := w0.drewN k) ((h.map.ab ha).same rfl) (n := c.ten) hc.ten
  simp only [hf, Option.map_some] at hlk
  have s1 := (h.box.ab ha).cell (k := 1) rfl
  have d4 := (ht.box.ab ha).cell (k := 4) rfl
  have d6 := (ht.box.ab ha).cell (k := 6) rfl
  have f6 := (ht.box.ab ha).free 6
  have TT := Lib.hid fun k => ht.stp (Stp.cut (bel_drewN ha k) (fun _ => False)) fun h => h
  have HMW := Lib.hid h
  have HTW := Lib.hid ht
  have HFN := Lib.hid hf
  have OKX := Lib.hid (h.ok x (fnd_mem hf).1)
  have HA := Lib.hid ha
  have HQ := Lib.hid hqb
  have HB := Lib.hid hcb
  have M0 := h.stp (Stp.cut ha (fun _ => False)) fun _ h => h
  have HM := Lib.hid M0
  have HF := Lib.hid fun W => fails_any 2 W
  clear h ha hqb hcb hc M0 hf ht
  go_quiet (fail)
  go_wp2_with fail
  refine (HF.out _).mono ?_
  rintro e w1 ⟨rfl, hb⟩
  have B1 : Hid (Below w0.heap.size w0 w1) := Lib.hid ((bel_drewN (Below.refl _ _) _).trans hb)
  have Q1 := Lib.hid (HQ.out.ab B1.out)
  have M1 := Lib.hid (HM.out.stp (Stp.of B1.out (fun _ => False) fun _ _ => rfl) fun _ h => h)
  have S1 : Hid (Stp (fun τ => τ.1 = s) w O w1 (cutTg O w.heap.size)) := Lib.hid ((Stp.cut HA.out _).ab B1.out)
  clear hb HQ HM B1
  go_wp2_with (first
    | (with_reducible refine wpList_storeC (o := ⟨none, .store _ (.tmp 4) (.tmp 26), _, _, _, _⟩) ?_ 40 (.tmp 4) (.tmp 26) ?_ (w.heap.size + 1) ?_ (ansE 2) ?_ (cs := ansE 0) (t := 40) Q1.out (szAnsE _) ?_ (ansE_one _) ?_
       · rfl
       · rfl
       · rfl
       · rfl
       · rfl
       intro wz hwz
       have QZ : Hid (CbB wz (w.heap.size + 1) 40 (ansE 2)) := Lib.hid (by rw [hwz]; exact CbB.row Q1.out _)
       have FZ : Hid (Fr w1 wz (fun k => k = (w.heap.size + 1))) := Lib.hid (by rw [hwz]; exact fr_rowX _ _ _)
       clear hwz))
  refine bodyPost_ret (ans_results Tryz.results42 _ _ (w.heap.size + 1) (ansE 2) rfl QZ.out rfl) rfl ?_
  exact DoR.flat 2 0 0 0 ⟨m, bs, M1.out.stp (Stp.box FZ.out (cutTg_at (Nat.le_succ _))) fun i e => by have := M1.out.pos; injection e with e; omega⟩ (S1.out.fresh FZ.out (Nat.le_succ _))
set_option maxRecDepth 100000 in
set_option maxHeartbeats 2000000 in
theorem id_step_high (x : Nat × TnP) (h : IdM w O s blocks T m bs) (hc : c.Ok) (hf : fnd bs c.ten = some x) (n0 : decide (c.n < 1) = false) (n1 : decide ((100 : Int) < c.n) = true) :
    Calls Tryz.prog 42 #[.pointer (some ⟨s, 0, none⟩), .agg c.cs] w (DoR s blocks w O (errA 2) T) := by
  obtain ⟨cb, mo, sm, nb, es, ht⟩ := h.all x (fnd_mem hf).1
  have ha : Below w.heap.size w ((w.alloc (.cells #[.int .i64 c.kind, .int .u32 (c.ten : Int), .slice c.sec.A c.sec.n c.sec.c, .int .i64 c.quota, .int .i64 c.n, .int .u64 (c.hd : Int), .int .u64 (c.oth : Int), .int .u64 (c.sn : Int), .int .u8 (c.rt : Int), .slice c.oA c.oN c.oC, .slice c.key.A c.key.n c.key.c, .slice c.frm.A c.frm.n c.frm.c, .slice c.upto.A c.upto.n c.upto.c, .bool c.back] 36)).alloc (.cells #[.int .i64 0, .int .u64 0, .int .u64 0, .slice none 0 0, .slice none 0 0, .int .i64 0, .slice none 0 0] 40)) := ((Below.refl _ _).alloc (Nat.le_refl _) _).alloc (by simp) _
  have hcb : CbB ((w.alloc (.cells #[.int .i64 c.kind, .int .u32 (c.ten : Int), .slice c.sec.A c.sec.n c.sec.c, .int .i64 c.quota, .int .i64 c.n, .int .u64 (c.hd : Int), .int .u64 (c.oth : Int), .int .u64 (c.sn : Int), .int .u8 (c.rt : Int), .slice c.oA c.oN c.oC, .slice c.key.A c.key.n c.key.c, .slice c.frm.A c.frm.n c.frm.c, .slice c.upto.A c.upto.n c.upto.c, .bool c.back] 36)).alloc (.cells #[.int .i64 0, .int .u64 0, .int .u64 0, .slice none 0 0, .slice none 0 0, .int .i64 0, .slice none 0 0] 40)) w.heap.size 36 c.cs := (CbB.new w _ _).ab ((Below.refl _ _).alloc (Nat.le_refl _) _)
  have hqb : CbB ((w.alloc (.cells #[.int .i64 c.kind, .int .u32 (c.ten : Int), .slice c.sec.A c.sec.n c.sec.c, .int .i64 c.quota, .int .i64 c.n, .int .u64 (c.hd : Int), .int .u64 (c.oth : Int), .int .u64 (c.sn : Int), .int .u8 (c.rt : Int), .slice c.oA c.oN c.oC, .slice c.key.A c.key.n c.key.c, .slice c.frm.A c.frm.n c.frm.c, .slice c.upto.A c.upto.n c.upto.c, .bool c.back] 36)).alloc (.cells #[.int .i64 0, .int .u64 0, .int .u64 0, .slice none 0 0, .slice none 0 0, .int .i64 0, .slice none 0 0] 40)) (w.heap.size + 1) 40 (ansE 0) := CbB.newI (by simp)
  unfold CallP.cs at hcb ⊢
  go_enter Tryz.func42, Tryz.ntmps42
  go_upto_region 1 with (fail)
  obtain ⟨w0, hw0⟩ : ∃ w0, ((w.alloc (.cells #[.int .i64 c.kind, .int .u32 (c.ten : Int), .slice c.sec.A c.sec.n c.sec.c, .int .i64 c.quota, .int .i64 c.n, .int .u64 (c.hd : Int), .int .u64 (c.oth : Int), .int .u64 (c.sn : Int), .int .u8 (c.rt : Int), .slice c.oA c.oN c.oC, .slice c.key.A c.key.n c.key.c, .slice c.frm.A c.frm.n c.frm.c, .slice c.upto.A c.upto.n c.upto.c, .bool c.back] 36)).alloc (.cells #[.int .i64 0, .int .u64 0, .int .u64 0, .slice none 0 0, .slice none 0 0, .int .i64 0, .slice none 0 0] 40)) = w0 := ⟨_, rfl⟩
  rw [hw0] at ha hcb hqb ⊢
  clear hw0
  have c1 := (hcb).cell (k := 1) rfl
  have c4 := (hcb).cell (k := 4) rfl
  have hlk := fun k : Nat => map_look (w := w0.drewN k) ((h.map.ab ha).same rfl) (n := c.ten) hc.ten
  simp only [hf, Option.map_some] at hlk
  have s1 := (h.box.ab ha).cell (k := 1) rfl
  have d4 := (ht.box.ab ha).cell (k := 4) rfl
  have d6 := (ht.box.ab ha).cell (k := 6) rfl
  have f6 := (ht.box.ab ha).free 6
  have TT := Lib.hid fun k => ht.stp (Stp.cut (bel_drewN ha k) (fun _ => False)) fun h => h
  have HMW := Lib.hid h
  have HTW := Lib.hid ht
  have HFN := Lib.hid hf
  have OKX := Lib.hid (h.ok x (fnd_mem hf).1)
  have HA := Lib.hid ha
  have HQ := Lib.hid hqb
  have HB := Lib.hid hcb
  have M0 := h.stp (Stp.cut ha (fun _ => False)) fun _ h => h
  have HM := Lib.hid M0
  have HF := Lib.hid fun W => fails_any 2 W
  clear h ha hqb hcb hc M0 hf ht
  go_quiet (fail)
  go_wp2_with fail
  refine (HF.out _).mono ?_
  rintro e w1 ⟨rfl, hb⟩
  have B1 : Hid (Below w0.heap.size w0 w1) := Lib.hid ((bel_drewN (Below.refl _ _) _).trans hb)
  have Q1 := Lib.hid (HQ.out.ab B1.out)
  have M1 := Lib.hid (HM.out.stp (Stp.of B1.out (fun _ => False) fun _ _ => rfl) fun _ h => h)
  have S1 : Hid (Stp (fun τ => τ.1 = s) w O w1 (cutTg O w.heap.size)) := Lib.hid ((Stp.cut HA.out _).ab B1.out)
  clear hb HQ HM B1
  go_wp2_with (first
    | (with_reducible refine wpList_storeC (o := ⟨none, .store _ (.tmp 4) (.tmp 26), _, _, _, _⟩) ?_ 40 (.tmp 4) (.tmp 26) ?_ (w.heap.size + 1) ?_ (ansE 2) ?_ (cs := ansE 0) (t := 40) Q1.out (szAnsE _) ?_ (ansE_one _) ?_
       · rfl
       · rfl
       · rfl
       · rfl
       · rfl
       intro wz hwz
       have QZ : Hid (CbB wz (w.heap.size + 1) 40 (ansE 2)) := Lib.hid (by rw [hwz]; exact CbB.row Q1.out _)
       have FZ : Hid (Fr w1 wz (fun k => k = (w.heap.size + 1))) := Lib.hid (by rw [hwz]; exact fr_rowX _ _ _)
       clear hwz))
  refine bodyPost_ret (ans_results Tryz.results42 _ _ (w.heap.size + 1) (ansE 2) rfl QZ.out rfl) rfl ?_
  exact DoR.flat 2 0 0 0 ⟨m, bs, M1.out.stp (Stp.box FZ.out (cutTg_at (Nat.le_succ _))) fun i e => by have := M1.out.pos; injection e with e; omega⟩ (S1.out.fresh FZ.out (Nat.le_succ _))
set_option maxRecDepth 100000 in
set_option maxHeartbeats 2000000 in
theorem id_step_state (x : Nat × TnP) (h : IdM w O s blocks T m bs) (hc : c.Ok) (hf : fnd bs c.ten = some x) (n0 : decide (c.n < 1) = false) (n1 : decide ((100 : Int) < c.n) = false) (hu : x.2.tu = false) :
    Calls Tryz.prog 42 #[.pointer (some ⟨s, 0, none⟩), .agg c.cs] w (DoR s blocks w O (errA 264) T) := by
  obtain ⟨cb, mo, sm, nb, es, ht⟩ := h.all x (fnd_mem hf).1
  have ha : Below w.heap.size w ((w.alloc (.cells #[.int .i64 c.kind, .int .u32 (c.ten : Int), .slice c.sec.A c.sec.n c.sec.c, .int .i64 c.quota, .int .i64 c.n, .int .u64 (c.hd : Int), .int .u64 (c.oth : Int), .int .u64 (c.sn : Int), .int .u8 (c.rt : Int), .slice c.oA c.oN c.oC, .slice c.key.A c.key.n c.key.c, .slice c.frm.A c.frm.n c.frm.c, .slice c.upto.A c.upto.n c.upto.c, .bool c.back] 36)).alloc (.cells #[.int .i64 0, .int .u64 0, .int .u64 0, .slice none 0 0, .slice none 0 0, .int .i64 0, .slice none 0 0] 40)) := ((Below.refl _ _).alloc (Nat.le_refl _) _).alloc (by simp) _
  have hcb : CbB ((w.alloc (.cells #[.int .i64 c.kind, .int .u32 (c.ten : Int), .slice c.sec.A c.sec.n c.sec.c, .int .i64 c.quota, .int .i64 c.n, .int .u64 (c.hd : Int), .int .u64 (c.oth : Int), .int .u64 (c.sn : Int), .int .u8 (c.rt : Int), .slice c.oA c.oN c.oC, .slice c.key.A c.key.n c.key.c, .slice c.frm.A c.frm.n c.frm.c, .slice c.upto.A c.upto.n c.upto.c, .bool c.back] 36)).alloc (.cells #[.int .i64 0, .int .u64 0, .int .u64 0, .slice none 0 0, .slice none 0 0, .int .i64 0, .slice none 0 0] 40)) w.heap.size 36 c.cs := (CbB.new w _ _).ab ((Below.refl _ _).alloc (Nat.le_refl _) _)
  have hqb : CbB ((w.alloc (.cells #[.int .i64 c.kind, .int .u32 (c.ten : Int), .slice c.sec.A c.sec.n c.sec.c, .int .i64 c.quota, .int .i64 c.n, .int .u64 (c.hd : Int), .int .u64 (c.oth : Int), .int .u64 (c.sn : Int), .int .u8 (c.rt : Int), .slice c.oA c.oN c.oC, .slice c.key.A c.key.n c.key.c, .slice c.frm.A c.frm.n c.frm.c, .slice c.upto.A c.upto.n c.upto.c, .bool c.back] 36)).alloc (.cells #[.int .i64 0, .int .u64 0, .int .u64 0, .slice none 0 0, .slice none 0 0, .int .i64 0, .slice none 0 0] 40)) (w.heap.size + 1) 40 (ansE 0) := CbB.newI (by simp)
  unfold CallP.cs at hcb ⊢
  go_enter Tryz.func42, Tryz.ntmps42
  go_upto_region 1 with (fail)
  obtain ⟨w0, hw0⟩ : ∃ w0, ((w.alloc (.cells #[.int .i64 c.kind, .int .u32 (c.ten : Int), .slice c.sec.A c.sec.n c.sec.c, .int .i64 c.quota, .int .i64 c.n, .int .u64 (c.hd : Int), .int .u64 (c.oth : Int), .int .u64 (c.sn : Int), .int .u8 (c.rt : Int), .slice c.oA c.oN c.oC, .slice c.key.A c.key.n c.key.c, .slice c.frm.A c.frm.n c.frm.c, .slice c.upto.A c.upto.n c.upto.c, .bool c.back] 36)).alloc (.cells #[.int .i64 0, .int .u64 0, .int .u64 0, .slice none 0 0, .slice none 0 0, .int .i64 0, .slice none 0 0] 40)) = w0 := ⟨_, rfl⟩
  rw [hw0] at ha hcb hqb ⊢
  clear hw0
  have c1 := (hcb).cell (k := 1) rfl
  have c4 := (hcb).cell (k := 4) rfl
  have hlk := fun k : Nat => map_look (w := w0.drewN k) ((h.map.ab ha).same rfl) (n := c.ten) hc.ten
  simp only [hf, Option.map_some] at hlk
  have s1 := (h.box.ab ha).cell (k := 1) rfl
  have d4 := (ht.box.ab ha).cell (k := 4) rfl
  have d6 := (ht.box.ab ha).cell (k := 6) rfl
  have f6 := (ht.box.ab ha).free 6
  have TT := Lib.hid fun k => ht.stp (Stp.cut (bel_drewN ha k) (fun _ => False)) fun h => h
  have HMW := Lib.hid h
  have HTW := Lib.hid ht
  have HFN := Lib.hid hf
  have OKX := Lib.hid (h.ok x (fnd_mem hf).1)
  rw [hu] at d6
  have HA := Lib.hid ha
  have HQ := Lib.hid hqb
  have HB := Lib.hid hcb
  have M0 := h.stp (Stp.cut ha (fun _ => False)) fun _ h => h
  have HM := Lib.hid M0
  have HF := Lib.hid fun W => fails_any 264 W
  clear h ha hqb hcb hc M0 hf ht hu
  go_quiet (fail)
  go_wp2_with fail
  refine (HF.out _).mono ?_
  rintro e w1 ⟨rfl, hb⟩
  have B1 : Hid (Below w0.heap.size w0 w1) := Lib.hid ((bel_drewN (Below.refl _ _) _).trans hb)
  have Q1 := Lib.hid (HQ.out.ab B1.out)
  have M1 := Lib.hid (HM.out.stp (Stp.of B1.out (fun _ => False) fun _ _ => rfl) fun _ h => h)
  have S1 : Hid (Stp (fun τ => τ.1 = s) w O w1 (cutTg O w.heap.size)) := Lib.hid ((Stp.cut HA.out _).ab B1.out)
  clear hb HQ HM B1
  go_wp2_with (first
    | (with_reducible refine wpList_storeC (o := ⟨none, .store _ (.tmp 4) (.tmp 33), _, _, _, _⟩) ?_ 40 (.tmp 4) (.tmp 33) ?_ (w.heap.size + 1) ?_ (ansE 264) ?_ (cs := ansE 0) (t := 40) Q1.out (szAnsE _) ?_ (ansE_one _) ?_
       · rfl
       · rfl
       · rfl
       · rfl
       · rfl
       intro wz hwz
       have QZ : Hid (CbB wz (w.heap.size + 1) 40 (ansE 264)) := Lib.hid (by rw [hwz]; exact CbB.row Q1.out _)
       have FZ : Hid (Fr w1 wz (fun k => k = (w.heap.size + 1))) := Lib.hid (by rw [hwz]; exact fr_rowX _ _ _)
       clear hwz))
  refine bodyPost_ret (ans_results Tryz.results42 _ _ (w.heap.size + 1) (ansE 264) rfl QZ.out rfl) rfl ?_
  exact DoR.flat 264 0 0 0 ⟨m, bs, M1.out.stp (Stp.box FZ.out (cutTg_at (Nat.le_succ _))) fun i e => by have := M1.out.pos; injection e with e; omega⟩ (S1.out.fresh FZ.out (Nat.le_succ _))
set_option maxRecDepth 100000 in
set_option maxHeartbeats 2000000 in
theorem id_finish_state (x : Nat × TnP) (h : IdM w O s blocks T m bs) (hc : c.Ok) (hf : fnd bs c.ten = some x) (hu : x.2.tu = false) :
    Calls Tryz.prog 43 #[.pointer (some ⟨s, 0, none⟩), .agg c.cs] w (DoR s blocks w O (errA 264) T) := by
  obtain ⟨cb, mo, sm, nb, es, ht⟩ := h.all x (fnd_mem hf).1
  have ha : Below w.heap.size w ((w.alloc (.cells #[.int .i64 c.kind, .int .u32 (c.ten : Int), .slice c.sec.A c.sec.n c.sec.c, .int .i64 c.quota, .int .i64 c.n, .int .u64 (c.hd : Int), .int .u64 (c.oth : Int), .int .u64 (c.sn : Int), .int .u8 (c.rt : Int), .slice c.oA c.oN c.oC, .slice c.key.A c.key.n c.key.c, .slice c.frm.A c.frm.n c.frm.c, .slice c.upto.A c.upto.n c.upto.c, .bool c.back] 36)).alloc (.cells #[.int .i64 0, .int .u64 0, .int .u64 0, .slice none 0 0, .slice none 0 0, .int .i64 0, .slice none 0 0] 40)) := ((Below.refl _ _).alloc (Nat.le_refl _) _).alloc (by simp) _
  have hcb : CbB ((w.alloc (.cells #[.int .i64 c.kind, .int .u32 (c.ten : Int), .slice c.sec.A c.sec.n c.sec.c, .int .i64 c.quota, .int .i64 c.n, .int .u64 (c.hd : Int), .int .u64 (c.oth : Int), .int .u64 (c.sn : Int), .int .u8 (c.rt : Int), .slice c.oA c.oN c.oC, .slice c.key.A c.key.n c.key.c, .slice c.frm.A c.frm.n c.frm.c, .slice c.upto.A c.upto.n c.upto.c, .bool c.back] 36)).alloc (.cells #[.int .i64 0, .int .u64 0, .int .u64 0, .slice none 0 0, .slice none 0 0, .int .i64 0, .slice none 0 0] 40)) w.heap.size 36 c.cs := (CbB.new w _ _).ab ((Below.refl _ _).alloc (Nat.le_refl _) _)
  have hqb : CbB ((w.alloc (.cells #[.int .i64 c.kind, .int .u32 (c.ten : Int), .slice c.sec.A c.sec.n c.sec.c, .int .i64 c.quota, .int .i64 c.n, .int .u64 (c.hd : Int), .int .u64 (c.oth : Int), .int .u64 (c.sn : Int), .int .u8 (c.rt : Int), .slice c.oA c.oN c.oC, .slice c.key.A c.key.n c.key.c, .slice c.frm.A c.frm.n c.frm.c, .slice c.upto.A c.upto.n c.upto.c, .bool c.back] 36)).alloc (.cells #[.int .i64 0, .int .u64 0, .int .u64 0, .slice none 0 0, .slice none 0 0, .int .i64 0, .slice none 0 0] 40)) (w.heap.size + 1) 40 (ansE 0) := CbB.newI (by simp)
  unfold CallP.cs at hcb ⊢
  go_enter Tryz.func43, Tryz.ntmps43
  go_upto_region 1 with (fail)
  obtain ⟨w0, hw0⟩ : ∃ w0, ((w.alloc (.cells #[.int .i64 c.kind, .int .u32 (c.ten : Int), .slice c.sec.A c.sec.n c.sec.c, .int .i64 c.quota, .int .i64 c.n, .int .u64 (c.hd : Int), .int .u64 (c.oth : Int), .int .u64 (c.sn : Int), .int .u8 (c.rt : Int), .slice c.oA c.oN c.oC, .slice c.key.A c.key.n c.key.c, .slice c.frm.A c.frm.n c.frm.c, .slice c.upto.A c.upto.n c.upto.c, .bool c.back] 36)).alloc (.cells #[.int .i64 0, .int .u64 0, .int .u64 0, .slice none 0 0, .slice none 0 0, .int .i64 0, .slice none 0 0] 40)) = w0 := ⟨_, rfl⟩
  rw [hw0] at ha hcb hqb ⊢
  clear hw0
  have c1 := (hcb).cell (k := 1) rfl
  have hlk := fun k : Nat => map_look (w := w0.drewN k) ((h.map.ab ha).same rfl) (n := c.ten) hc.ten
  simp only [hf, Option.map_some] at hlk
  have s1 := (h.box.ab ha).cell (k := 1) rfl
  have d4 := (ht.box.ab ha).cell (k := 4) rfl
  have d6 := (ht.box.ab ha).cell (k := 6) rfl
  have f6 := (ht.box.ab ha).free 6
  have TT := Lib.hid fun k => ht.stp (Stp.cut (bel_drewN ha k) (fun _ => False)) fun h => h
  have HMW := Lib.hid h
  have HTW := Lib.hid ht
  have HFN := Lib.hid hf
  have OKX := Lib.hid (h.ok x (fnd_mem hf).1)
  rw [hu] at d6
  have HA := Lib.hid ha
  have HQ := Lib.hid hqb
  have HB := Lib.hid hcb
  have M0 := h.stp (Stp.cut ha (fun _ => False)) fun _ h => h
  have HM := Lib.hid M0
  have HF := Lib.hid fun W => fails_any 264 W
  clear h ha hqb hcb hc M0 hf ht hu
  go_quiet (fail)
  go_wp2_with fail
  refine (HF.out _).mono ?_
  rintro e w1 ⟨rfl, hb⟩
  have B1 : Hid (Below w0.heap.size w0 w1) := Lib.hid ((bel_drewN (Below.refl _ _) _).trans hb)
  have Q1 := Lib.hid (HQ.out.ab B1.out)
  have M1 := Lib.hid (HM.out.stp (Stp.of B1.out (fun _ => False) fun _ _ => rfl) fun _ h => h)
  have S1 : Hid (Stp (fun τ => τ.1 = s) w O w1 (cutTg O w.heap.size)) := Lib.hid ((Stp.cut HA.out _).ab B1.out)
  clear hb HQ HM B1
  go_wp2_with (first
    | (with_reducible refine wpList_storeC (o := ⟨none, .store _ (.tmp 4) (.tmp 23), _, _, _, _⟩) ?_ 40 (.tmp 4) (.tmp 23) ?_ (w.heap.size + 1) ?_ (ansE 264) ?_ (cs := ansE 0) (t := 40) Q1.out (szAnsE _) ?_ (ansE_one _) ?_
       · rfl
       · rfl
       · rfl
       · rfl
       · rfl
       intro wz hwz
       have QZ : Hid (CbB wz (w.heap.size + 1) 40 (ansE 264)) := Lib.hid (by rw [hwz]; exact CbB.row Q1.out _)
       have FZ : Hid (Fr w1 wz (fun k => k = (w.heap.size + 1))) := Lib.hid (by rw [hwz]; exact fr_rowX _ _ _)
       clear hwz))
  refine bodyPost_ret (ans_results Tryz.results43 _ _ (w.heap.size + 1) (ansE 264) rfl QZ.out rfl) rfl ?_
  exact DoR.flat 264 0 0 0 ⟨m, bs, M1.out.stp (Stp.box FZ.out (cutTg_at (Nat.le_succ _))) fun i e => by have := M1.out.pos; injection e with e; omega⟩ (S1.out.fresh FZ.out (Nat.le_succ _))
set_option maxRecDepth 100000 in
set_option maxHeartbeats 2000000 in
theorem id_step_ok (x : Nat × TnP) (h : IdM w O s blocks T m bs) (hc : c.Ok) (hf : fnd bs c.ten = some x) (n0 : decide (c.n < 1) = false) (n1 : decide ((100 : Int) < c.n) = false) (hu : x.2.tu = true) :
    Calls Tryz.prog 42 #[.pointer (some ⟨s, 0, none⟩), .agg c.cs] w (DoR s blocks w O (errA 0) T) := by
  obtain ⟨cb, mo, sm, nb, es, ht⟩ := h.all x (fnd_mem hf).1
  have ha : Below w.heap.size w ((w.alloc (.cells #[.int .i64 c.kind, .int .u32 (c.ten : Int), .slice c.sec.A c.sec.n c.sec.c, .int .i64 c.quota, .int .i64 c.n, .int .u64 (c.hd : Int), .int .u64 (c.oth : Int), .int .u64 (c.sn : Int), .int .u8 (c.rt : Int), .slice c.oA c.oN c.oC, .slice c.key.A c.key.n c.key.c, .slice c.frm.A c.frm.n c.frm.c, .slice c.upto.A c.upto.n c.upto.c, .bool c.back] 36)).alloc (.cells #[.int .i64 0, .int .u64 0, .int .u64 0, .slice none 0 0, .slice none 0 0, .int .i64 0, .slice none 0 0] 40)) := ((Below.refl _ _).alloc (Nat.le_refl _) _).alloc (by simp) _
  have hcb : CbB ((w.alloc (.cells #[.int .i64 c.kind, .int .u32 (c.ten : Int), .slice c.sec.A c.sec.n c.sec.c, .int .i64 c.quota, .int .i64 c.n, .int .u64 (c.hd : Int), .int .u64 (c.oth : Int), .int .u64 (c.sn : Int), .int .u8 (c.rt : Int), .slice c.oA c.oN c.oC, .slice c.key.A c.key.n c.key.c, .slice c.frm.A c.frm.n c.frm.c, .slice c.upto.A c.upto.n c.upto.c, .bool c.back] 36)).alloc (.cells #[.int .i64 0, .int .u64 0, .int .u64 0, .slice none 0 0, .slice none 0 0, .int .i64 0, .slice none 0 0] 40)) w.heap.size 36 c.cs := (CbB.new w _ _).ab ((Below.refl _ _).alloc (Nat.le_refl _) _)
  have hqb : CbB ((w.alloc (.cells #[.int .i64 c.kind, .int .u32 (c.ten : Int), .slice c.sec.A c.sec.n c.sec.c, .int .i64 c.quota, .int .i64 c.n, .int .u64 (c.hd : Int), .int .u64 (c.oth : Int), .int .u64 (c.sn : Int), .int .u8 (c.rt : Int), .slice c.oA c.oN c.oC, .slice c.key.A c.key.n c.key.c, .slice c.frm.A c.frm.n c.frm.c, .slice c.upto.A c.upto.n c.upto.c, .bool c.back] 36)).alloc (.cells #[.int .i64 0, .int .u64 0, .int .u64 0, .slice none 0 0, .slice none 0 0, .int .i64 0, .slice none 0 0] 40)) (w.heap.size + 1) 40 (ansE 0) := CbB.newI (by simp)
  unfold CallP.cs at hcb ⊢
  go_enter Tryz.func42, Tryz.ntmps42
  go_upto_region 1 with (fail)
  obtain ⟨w0, hw0⟩ : ∃ w0, ((w.alloc (.cells #[.int .i64 c.kind, .int .u32 (c.ten : Int), .slice c.sec.A c.sec.n c.sec.c, .int .i64 c.quota, .int .i64 c.n, .int .u64 (c.hd : Int), .int .u64 (c.oth : Int), .int .u64 (c.sn : Int), .int .u8 (c.rt : Int), .slice c.oA c.oN c.oC, .slice c.key.A c.key.n c.key.c, .slice c.frm.A c.frm.n c.frm.c, .slice c.upto.A c.upto.n c.upto.c, .bool c.back] 36)).alloc (.cells #[.int .i64 0, .int .u64 0, .int .u64 0, .slice none 0 0, .slice none 0 0, .int .i64 0, .slice none 0 0] 40)) = w0 := ⟨_, rfl⟩
  rw [hw0] at ha hcb hqb ⊢
  clear hw0
  have c1 := (hcb).cell (k := 1) rfl
  have c4 := (hcb).cell (k := 4) rfl
  have hlk := fun k : Nat => map_look (w := w0.drewN k) ((h.map.ab ha).same rfl) (n := c.ten) hc.ten
  simp only [hf, Option.map_some] at hlk
  have s1 := (h.box.ab ha).cell (k := 1) rfl
  have d4 := (ht.box.ab ha).cell (k := 4) rfl
  have d6 := (ht.box.ab ha).cell (k := 6) rfl
  have f6 := (ht.box.ab ha).free 6
  have TT := Lib.hid fun k => ht.stp (Stp.cut (bel_drewN ha k) (fun _ => False)) fun h => h
  have HMW := Lib.hid h
  have HTW := Lib.hid ht
  have HFN := Lib.hid hf
  have OKX := Lib.hid (h.ok x (fnd_mem hf).1)
  rw [hu] at d6
  have HA := Lib.hid ha
  have HQ := Lib.hid hqb
  have HB := Lib.hid hcb
  have M0 := h.stp (Stp.cut ha (fun _ => False)) fun _ h => h
  have HM := Lib.hid M0
  clear h ha hqb hcb hc M0 hf ht hu
  go_quiet (fail)
  have hb1 : Below w0.heap.size w0 (w0.drewN nq) := bel_drewN (Below.refl _ _) _
  have Q1 := Lib.hid (HQ.out.ab hb1)
  have M1 := Lib.hid (HM.out.stp (Stp.of hb1 (fun _ => False) fun _ _ => rfl) fun _ h => h)
  have S1 : Hid (Stp (fun τ => τ.1 = s) w O (w0.drewN nq) (cutTg O w.heap.size)) := Lib.hid ((Stp.cut HA.out (fun τ => τ.1 = s)).ab hb1)
  clear hb1 HQ HM
  go_wp2_with (first
    | (with_reducible refine wpList_storeC (o := ⟨none, .store _ (.tmp 4) (.tmp 34), _, _, _, _⟩) ?_ 40 (.tmp 4) (.tmp 34) ?_ (w.heap.size + 1) ?_ (ansE 0) ?_ (cs := ansE 0) (t := 40) Q1.out (szAnsE _) ?_ (ansE_one _) ?_
       · rfl
       · rfl
       · rfl
       · rfl
       · rfl
       intro wz hwz
       have QZ : Hid (CbB wz (w.heap.size + 1) 40 (ansE 0)) := Lib.hid (by rw [hwz]; exact CbB.row Q1.out _)
       have FZ : Hid (Fr (w0.drewN nq) wz (fun k => k = (w.heap.size + 1))) := Lib.hid (by rw [hwz]; exact fr_rowX _ _ _)
       clear hwz))
  refine bodyPost_ret (ans_results Tryz.results42 _ _ (w.heap.size + 1) (ansE 0) rfl QZ.out rfl) rfl ?_
  exact DoR.flat 0 0 0 0 ⟨m, _, M1.out.stp (Stp.box FZ.out (cutTg_at (Nat.le_succ _))) fun i e => by have := M1.out.pos; injection e with e; omega⟩ (S1.out.fresh FZ.out (Nat.le_succ _))
set_option maxRecDepth 100000 in
set_option maxHeartbeats 2000000 in
theorem id_turn_ok (x : Nat × TnP) (h : IdM w O s blocks T m bs) (hc : c.Ok) (hf : fnd bs c.ten = some x) (hu : x.2.tu = false) :
    Calls Tryz.prog 41 #[.pointer (some ⟨s, 0, none⟩), .agg c.cs] w (DoR s blocks w O (errA 0) (updT c.ten (setTu x.2 true) T)) := by
  obtain ⟨cb, mo, sm, nb, es, ht⟩ := h.all x (fnd_mem hf).1
  have ha : Below w.heap.size w ((w.alloc (.cells #[.int .i64 c.kind, .int .u32 (c.ten : Int), .slice c.sec.A c.sec.n c.sec.c, .int .i64 c.quota, .int .i64 c.n, .int .u64 (c.hd : Int), .int .u64 (c.oth : Int), .int .u64 (c.sn : Int), .int .u8 (c.rt : Int), .slice c.oA c.oN c.oC, .slice c.key.A c.key.n c.key.c, .slice c.frm.A c.frm.n c.frm.c, .slice c.upto.A c.upto.n c.upto.c, .bool c.back] 36)).alloc (.cells #[.int .i64 0, .int .u64 0, .int .u64 0, .slice none 0 0, .slice none 0 0, .int .i64 0, .slice none 0 0] 40)) := ((Below.refl _ _).alloc (Nat.le_refl _) _).alloc (by simp) _
  have hcb : CbB ((w.alloc (.cells #[.int .i64 c.kind, .int .u32 (c.ten : Int), .slice c.sec.A c.sec.n c.sec.c, .int .i64 c.quota, .int .i64 c.n, .int .u64 (c.hd : Int), .int .u64 (c.oth : Int), .int .u64 (c.sn : Int), .int .u8 (c.rt : Int), .slice c.oA c.oN c.oC, .slice c.key.A c.key.n c.key.c, .slice c.frm.A c.frm.n c.frm.c, .slice c.upto.A c.upto.n c.upto.c, .bool c.back] 36)).alloc (.cells #[.int .i64 0, .int .u64 0, .int .u64 0, .slice none 0 0, .slice none 0 0, .int .i64 0, .slice none 0 0] 40)) w.heap.size 36 c.cs := (CbB.new w _ _).ab ((Below.refl _ _).alloc (Nat.le_refl _) _)
  have hqb : CbB ((w.alloc (.cells #[.int .i64 c.kind, .int .u32 (c.ten : Int), .slice c.sec.A c.sec.n c.sec.c, .int .i64 c.quota, .int .i64 c.n, .int .u64 (c.hd : Int), .int .u64 (c.oth : Int), .int .u64 (c.sn : Int), .int .u8 (c.rt : Int), .slice c.oA c.oN c.oC, .slice c.key.A c.key.n c.key.c, .slice c.frm.A c.frm.n c.frm.c, .slice c.upto.A c.upto.n c.upto.c, .bool c.back] 36)).alloc (.cells #[.int .i64 0, .int .u64 0, .int .u64 0, .slice none 0 0, .slice none 0 0, .int .i64 0, .slice none 0 0] 40)) (w.heap.size + 1) 40 (ansE 0) := CbB.newI (by simp)
  unfold CallP.cs at hcb ⊢
  go_enter Tryz.func41, Tryz.ntmps41
  go_upto_region 1 with (fail)
  obtain ⟨w0, hw0⟩ : ∃ w0, ((w.alloc (.cells #[.int .i64 c.kind, .int .u32 (c.ten : Int), .slice c.sec.A c.sec.n c.sec.c, .int .i64 c.quota, .int .i64 c.n, .int .u64 (c.hd : Int), .int .u64 (c.oth : Int), .int .u64 (c.sn : Int), .int .u8 (c.rt : Int), .slice c.oA c.oN c.oC, .slice c.key.A c.key.n c.key.c, .slice c.frm.A c.frm.n c.frm.c, .slice c.upto.A c.upto.n c.upto.c, .bool c.back] 36)).alloc (.cells #[.int .i64 0, .int .u64 0, .int .u64 0, .slice none 0 0, .slice none 0 0, .int .i64 0, .slice none 0 0] 40)) = w0 := ⟨_, rfl⟩
  rw [hw0] at ha hcb hqb ⊢
  clear hw0
  have c1 := (hcb).cell (k := 1) rfl
  have hlk := fun k : Nat => map_look (w := w0.drewN k) ((h.map.ab ha).same rfl) (n := c.ten) hc.ten
  simp only [hf, Option.map_some] at hlk
  have s1 := (h.box.ab ha).cell (k := 1) rfl
  have d4 := (ht.box.ab ha).cell (k := 4) rfl
  have d6 := (ht.box.ab ha).cell (k := 6) rfl
  have f6 := (ht.box.ab ha).free 6
  have TT := Lib.hid fun k => ht.stp (Stp.cut (bel_drewN ha k) (fun _ => False)) fun h => h
  have HMW := Lib.hid h
  have HTW := Lib.hid ht
  have HFN := Lib.hid hf
  have OKX := Lib.hid (h.ok x (fnd_mem hf).1)
  rw [hu] at d6
  have HA := Lib.hid ha
  have HQ := Lib.hid hqb
  have HB := Lib.hid hcb
  have M0 := h.stp (Stp.cut ha (fun _ => False)) fun _ h => h
  have HM := Lib.hid M0
  clear h ha hqb hcb hc M0 hf ht hu
  go_quiet (fail)
  go_upto_region 7 with (fail)
  have T1 := TT.out nq
  have md := T1.mod (w1 := (w0.drewN nq).setCell ⟨x.1, 6, none⟩ (.bool true)) ((fr_set (w0.drewN nq) x.1 6 (.bool true)).imp fun q e => .inl e) (T1.box.set 6 (.bool true)) T1.now T1.nowO (T1.snm.same (Below.heap_setCell (w0.drewN nq) ⟨x.1, 6, none⟩ (.bool true) sm fun e => T1.apart.2.2.2 e.symm)) T1.sns
  have hb1 : Below w0.heap.size w0 (w0.drewN nq) := bel_drewN (Below.refl _ _) _
  have Q1 : Hid (CbB ((w0.drewN nq).setCell ⟨x.1, 6, none⟩ (.bool true)) (w.heap.size + 1) 40 (ansE 0)) := Lib.hid ((HQ.out.ab hb1).far (fun e => by have h1 := HQ.out.ab hb1; rw [e] at h1; exact absurd rfl (cb_neX h1 T1.box (by decide))) _)
  have k1 : Stp (fun τ => τ = (s, x.2.n)) w O (w0.drewN nq) (cutTg O w.heap.size) := (Stp.cut HA.out _).ab hb1
  obtain ⟨w6, hw6⟩ : ∃ w6, (w0.drewN nq).setCell ⟨x.1, 6, none⟩ (.bool true) = w6 := ⟨_, rfl⟩
  rw [hw6] at md Q1 ⊢
  obtain ⟨md1, md2⟩ := md
  have XN := (fnd_mem HFN.out).2
  rw [XN] at md1 k1
  have K6 := Lib.hid (k1.tr md1)
  have OKT : TnOk (setTu x.2 true) := by have h1 := OKX.out; exact ⟨h1.n1, h1.n32, h1.sec, h1.q1, h1.q2⟩
  have M1 := Lib.hid (HMW.out.upd (t' := setTu x.2 true) HFN.out K6.out XN OKT ⟨_, _, _, _, _, md2⟩)
  have S1 : Hid (Stp (fun τ => τ.1 = s) w O w6 (cutTg O w.heap.size)) := Lib.hid (K6.out.imp fun τ e => by rw [e])
  clear hw6 md1 md2 XN OKT hb1 k1 T1 d4 d6 f6
  go_wp2_with (first
    | (with_reducible refine wpList_storeC (o := ⟨none, .store _ (.tmp 4) (.tmp 26), _, _, _, _⟩) ?_ 40 (.tmp 4) (.tmp 26) ?_ (w.heap.size + 1) ?_ (ansE 0) ?_ (cs := ansE 0) (t := 40) Q1.out (szAnsE _) ?_ (ansE_one _) ?_
       · rfl
       · rfl
       · rfl
       · rfl
       · rfl
       intro wz hwz
       have QZ : Hid (CbB wz (w.heap.size + 1) 40 (ansE 0)) := Lib.hid (by rw [hwz]; exact CbB.row Q1.out _)
       have FZ : Hid (Fr w6 wz (fun k => k = (w.heap.size + 1))) := Lib.hid (by rw [hwz]; exact fr_rowX _ _ _)
       clear hwz))
  refine bodyPost_ret (ans_results Tryz.results41 _ _ (w.heap.size + 1) (ansE 0) rfl QZ.out rfl) rfl ?_
  exact DoR.flat 0 0 0 0 ⟨m, _, M1.out.stp (Stp.box FZ.out (cutTg_at (Nat.le_succ _))) fun i e => by have := M1.out.pos; injection e with e; omega⟩ (S1.out.fresh FZ.out (Nat.le_succ _))
set_option maxRecDepth 100000 in
set_option maxHeartbeats 2000000 in
theorem id_finish_busy (x : Nat × TnP) (h : IdM w O s blocks T m bs) (hc : c.Ok) (hf : fnd bs c.ten = some x) (hu : x.2.tu = true) (hv : liveC x.2.sn ≠ []) :
    Calls Tryz.prog 43 #[.pointer (some ⟨s, 0, none⟩), .agg c.cs] w (DoR s blocks w O (errA 263) T) := by
  obtain ⟨cb, mo, sm, nb, es, ht⟩ := h.all x (fnd_mem hf).1
  have ha : Below w.heap.size w ((w.alloc (.cells #[.int .i64 c.kind, .int .u32 (c.ten : Int), .slice c.sec.A c.sec.n c.sec.c, .int .i64 c.quota, .int .i64 c.n, .int .u64 (c.hd : Int), .int .u64 (c.oth : Int), .int .u64 (c.sn : Int), .int .u8 (c.rt : Int), .slice c.oA c.oN c.oC, .slice c.key.A c.key.n c.key.c, .slice c.frm.A c.frm.n c.frm.c, .slice c.upto.A c.upto.n c.upto.c, .bool c.back] 36)).alloc (.cells #[.int .i64 0, .int .u64 0, .int .u64 0, .slice none 0 0, .slice none 0 0, .int .i64 0, .slice none 0 0] 40)) := ((Below.refl _ _).alloc (Nat.le_refl _) _).alloc (by simp) _
  have hcb : CbB ((w.alloc (.cells #[.int .i64 c.kind, .int .u32 (c.ten : Int), .slice c.sec.A c.sec.n c.sec.c, .int .i64 c.quota, .int .i64 c.n, .int .u64 (c.hd : Int), .int .u64 (c.oth : Int), .int .u64 (c.sn : Int), .int .u8 (c.rt : Int), .slice c.oA c.oN c.oC, .slice c.key.A c.key.n c.key.c, .slice c.frm.A c.frm.n c.frm.c, .slice c.upto.A c.upto.n c.upto.c, .bool c.back] 36)).alloc (.cells #[.int .i64 0, .int .u64 0, .int .u64 0, .slice none 0 0, .slice none 0 0, .int .i64 0, .slice none 0 0] 40)) w.heap.size 36 c.cs := (CbB.new w _ _).ab ((Below.refl _ _).alloc (Nat.le_refl _) _)
  have hqb : CbB ((w.alloc (.cells #[.int .i64 c.kind, .int .u32 (c.ten : Int), .slice c.sec.A c.sec.n c.sec.c, .int .i64 c.quota, .int .i64 c.n, .int .u64 (c.hd : Int), .int .u64 (c.oth : Int), .int .u64 (c.sn : Int), .int .u8 (c.rt : Int), .slice c.oA c.oN c.oC, .slice c.key.A c.key.n c.key.c, .slice c.frm.A c.frm.n c.frm.c, .slice c.upto.A c.upto.n c.upto.c, .bool c.back] 36)).alloc (.cells #[.int .i64 0, .int .u64 0, .int .u64 0, .slice none 0 0, .slice none 0 0, .int .i64 0, .slice none 0 0] 40)) (w.heap.size + 1) 40 (ansE 0) := CbB.newI (by simp)
  unfold CallP.cs at hcb ⊢
  go_enter Tryz.func43, Tryz.ntmps43
  go_upto_region 1 with (fail)
  obtain ⟨w0, hw0⟩ : ∃ w0, ((w.alloc (.cells #[.int .i64 c.kind, .int .u32 (c.ten : Int), .slice c.sec.A c.sec.n c.sec.c, .int .i64 c.quota, .int .i64 c.n, .int .u64 (c.hd : Int), .int .u64 (c.oth : Int), .int .u64 (c.sn : Int), .int .u8 (c.rt : Int), .slice c.oA c.oN c.oC, .slice c.key.A c.key.n c.key.c, .slice c.frm.A c.frm.n c.frm.c, .slice c.upto.A c.upto.n c.upto.c, .bool c.back] 36)).alloc (.cells #[.int .i64 0, .int .u64 0, .int .u64 0, .slice none 0 0, .slice none 0 0, .int .i64 0, .slice none 0 0] 40)) = w0 := ⟨_, rfl⟩
  rw [hw0] at ha hcb hqb ⊢
  clear hw0
  have c1 := (hcb).cell (k := 1) rfl
  have hlk := fun k : Nat => map_look (w := w0.drewN k) ((h.map.ab ha).same rfl) (n := c.ten) hc.ten
  simp only [hf, Option.map_some] at hlk
  have s1 := (h.box.ab ha).cell (k := 1) rfl
  have d4 := (ht.box.ab ha).cell (k := 4) rfl
  have d6 := (ht.box.ab ha).cell (k := 6) rfl
  have f6 := (ht.box.ab ha).free 6
  have TT := Lib.hid fun k => ht.stp (Stp.cut (bel_drewN ha k) (fun _ => False)) fun h => h
  have HMW := Lib.hid h
  have HTW := Lib.hid ht
  have HFN := Lib.hid hf
  have OKX := Lib.hid (h.ok x (fnd_mem hf).1)
  rw [hu] at d6
  have hlen := fun (k : Nat) ty => (ht.snm.ab (bel_drewN ha k)).len Tryz.underlying80 ty
  obtain ⟨ne, hne⟩ : ∃ n, es.length = n := ⟨_, rfl⟩
  have hl1 : 0 < ne := by rw [← hne]; exact ht.sns.live.2 hv
  have hl0 : decide ((0 : Int) < (ne : Int)) = true := by simp only [decide_eq_true_eq]; omega
  rw [hne] at hlen
  clear hne
  have HA := Lib.hid ha
  have HQ := Lib.hid hqb
  have HB := Lib.hid hcb
  have M0 := h.stp (Stp.cut ha (fun _ => False)) fun _ h => h
  have HM := Lib.hid M0
  have HF := Lib.hid fun W => fails_any 263 W
  clear h ha hqb hcb hc M0 hf ht hu hv
  go_quiet (fail)
  go_wp2_with fail
  refine (HF.out _).mono ?_
  rintro e w1 ⟨rfl, hb⟩
  have B1 : Hid (Below w0.heap.size w0 w1) := Lib.hid ((bel_drewN (Below.refl _ _) _).trans hb)
  have Q1 := Lib.hid (HQ.out.ab B1.out)
  have M1 := Lib.hid (HM.out.stp (Stp.of B1.out (fun _ => False) fun _ _ => rfl) fun _ h => h)
  have S1 : Hid (Stp (fun τ => τ.1 = s) w O w1 (cutTg O w.heap.size)) := Lib.hid ((Stp.cut HA.out _).ab B1.out)
  clear hb HQ HM B1
  go_wp2_with (first
    | (with_reducible refine wpList_storeC (o := ⟨none, .store _ (.tmp 4) (.tmp 31), _, _, _, _⟩) ?_ 40 (.tmp 4) (.tmp 31) ?_ (w.heap.size + 1) ?_ (ansE 263) ?_ (cs := ansE 0) (t := 40) Q1.out (szAnsE _) ?_ (ansE_one _) ?_
       · rfl
       · rfl
       · rfl
       · rfl
       · rfl
       intro wz hwz
       have QZ : Hid (CbB wz (w.heap.size + 1) 40 (ansE 263)) := Lib.hid (by rw [hwz]; exact CbB.row Q1.out _)
       have FZ : Hid (Fr w1 wz (fun k => k = (w.heap.size + 1))) := Lib.hid (by rw [hwz]; exact fr_rowX _ _ _)
       clear hwz))
  refine bodyPost_ret (ans_results Tryz.results43 _ _ (w.heap.size + 1) (ansE 263) rfl QZ.out rfl) rfl ?_
  exact DoR.flat 263 0 0 0 ⟨m, bs, M1.out.stp (Stp.box FZ.out (cutTg_at (Nat.le_succ _))) fun i e => by have := M1.out.pos; injection e with e; omega⟩ (S1.out.fresh FZ.out (Nat.le_succ _))
set_option maxRecDepth 100000 in
set_option maxHeartbeats 2000000 in
theorem id_finish_ok (x : Nat × TnP) (h : IdM w O s blocks T m bs) (hc : c.Ok) (hf : fnd bs c.ten = some x) (hu : x.2.tu = true) (hv : liveC x.2.sn = []) :
    Calls Tryz.prog 43 #[.pointer (some ⟨s, 0, none⟩), .agg c.cs] w (DoR s blocks w O (errA 0) (updT c.ten (setTu x.2 false) T)) := by
  obtain ⟨cb, mo, sm, nb, es, ht⟩ := h.all x (fnd_mem hf).1
  have ha : Below w.heap.size w ((w.alloc (.cells #[.int .i64 c.kind, .int .u32 (c.ten : Int), .slice c.sec.A c.sec.n c.sec.c, .int .i64 c.quota, .int .i64 c.n, .int .u64 (c.hd : Int), .int .u64 (c.oth : Int), .int .u64 (c.sn : Int), .int .u8 (c.rt : Int), .slice c.oA c.oN c.oC, .slice c.key.A c.key.n c.key.c, .slice c.frm.A c.frm.n c.frm.c, .slice c.upto.A c.upto.n c.upto.c, .bool c.back] 36)).alloc (.cells #[.int .i64 0, .int .u64 0, .int .u64 0, .slice none 0 0, .slice none 0 0, .int .i64 0, .slice none 0 0] 40)) := ((Below.refl _ _).alloc (Nat.le_refl _) _).alloc (by simp) _
  have hcb : CbB ((w.alloc (.cells #[.int .i64 c.kind, .int .u32 (c.ten : Int), .slice c.sec.A c.sec.n c.sec.c, .int .i64 c.quota, .int .i64 c.n, .int .u64 (c.hd : Int), .int .u64 (c.oth : Int), .int .u64 (c.sn : Int), .int .u8 (c.rt : Int), .slice c.oA c.oN c.oC, .slice c.key.A c.key.n c.key.c, .slice c.frm.A c.frm.n c.frm.c, .slice c.upto.A c.upto.n c.upto.c, .bool c.back] 36)).alloc (.cells #[.int .i64 0, .int .u64 0, .int .u64 0, .slice none 0 0, .slice none 0 0, .int .i64 0, .slice none 0 0] 40)) w.heap.size 36 c.cs := (CbB.new w _ _).ab ((Below.refl _ _).alloc (Nat.le_refl _) _)
  have hqb : CbB ((w.alloc (.cells #[.int .i64 c.kind, .int .u32 (c.ten : Int), .slice c.sec.A c.sec.n c.sec.c, .int .i64 c.quota, .int .i64 c.n, .int .u64 (c.hd : Int), .int .u64 (c.oth : Int), .int .u64 (c.sn : Int), .int .u8 (c.rt : Int), .slice c.oA c.oN c.oC, .slice c.key.A c.key.n c.key.c, .slice c.frm.A c.frm.n c.frm.c, .slice c.upto.A c.upto.n c.upto.c, .bool c.back] 36)).alloc (.cells #[.int .i64 0, .int .u64 0, .int .u64 0, .slice none 0 0, .slice none 0 0, .int .i64 0, .slice none 0 0] 40)) (w.heap.size + 1) 40 (ansE 0) := CbB.newI (by simp)
  unfold CallP.cs at hcb ⊢
  go_enter Tryz.func43, Tryz.ntmps43
  go_upto_region 1 with (fail)
  obtain ⟨w0, hw0⟩ : ∃ w0, ((w.alloc (.cells #[.int .i64 c.kind, .int .u32 (c.ten : Int), .slice c.sec.A c.sec.n c.sec.c, .int .i64 c.quota, .int .i64 c.n, .int .u64 (c.hd : Int), .int .u64 (c.oth : Int), .int .u64 (c.sn : Int), .int .u8 (c.rt : Int), .slice c.oA c.oN c.oC, .slice c.key.A c.key.n c.key.c, .slice c.frm.A c.frm.n c.frm.c, .slice c.upto.A c.upto.n c.upto.c, .bool c.back] 36)).alloc (.cells #[.int .i64 0, .int .u64 0, .int .u64 0, .slice none 0 0, .slice none 0 0, .int .i64 0, .slice none 0 0] 40)) = w0 := ⟨_, rfl⟩
  rw [hw0] at ha hcb hqb ⊢
  clear hw0
  have c1 := (hcb).cell (k := 1) rfl
  have hlk := fun k : Nat => map_look (w := w0.drewN k) ((h.map.ab ha).same rfl) (n := c.ten) hc.ten
  simp only [hf, Option.map_some] at hlk
  have s1 := (h.box.ab ha).cell (k := 1) rfl
  have d4 := (ht.box.ab ha).cell (k := 4) rfl
  have d6 := (ht.box.ab ha).cell (k := 6) rfl
  have f6 := (ht.box.ab ha).free 6
  have TT := Lib.hid fun k => ht.stp (Stp.cut (bel_drewN ha k) (fun _ => False)) fun h => h
  have HMW := Lib.hid h
  have HTW := Lib.hid ht
  have HFN := Lib.hid hf
  have OKX := Lib.hid (h.ok x (fnd_mem hf).1)
  rw [hu] at d6
  have hlen := fun (k : Nat) ty => (ht.snm.ab (bel_drewN ha k)).len Tryz.underlying80 ty
  obtain ⟨ne, hne⟩ : ∃ n, es.length = n := ⟨_, rfl⟩
  have hl1 : ¬ 0 < ne := by rw [← hne]; intro h9; exact absurd hv (ht.sns.live.1 h9)
  have hl0 : decide ((0 : Int) < (ne : Int)) = false := by simp only [decide_eq_false_iff_not]; omega
  rw [hne] at hlen
  clear hne
  have HA := Lib.hid ha
  have HQ := Lib.hid hqb
  have HB := Lib.hid hcb
  have M0 := h.stp (Stp.cut ha (fun _ => False)) fun _ h => h
  have HM := Lib.hid M0
  clear h ha hqb hcb hc M0 hf ht hu hv
  go_quiet (fail)
  go_upto_region 9 with (fail)
  have T1 := TT.out nq
  have md := T1.mod (w1 := (w0.drewN nq).setCell ⟨x.1, 6, none⟩ (.bool false)) ((fr_set (w0.drewN nq) x.1 6 (.bool false)).imp fun q e => .inl e) (T1.box.set 6 (.bool false)) T1.now T1.nowO (T1.snm.same (Below.heap_setCell (w0.drewN nq) ⟨x.1, 6, none⟩ (.bool false) sm fun e => T1.apart.2.2.2 e.symm)) T1.sns
  have hb1 : Below w0.heap.size w0 (w0.drewN nq) := bel_drewN (Below.refl _ _) _
  have Q1 : Hid (CbB ((w0.drewN nq).setCell ⟨x.1, 6, none⟩ (.bool false)) (w.heap.size + 1) 40 (ansE 0)) := Lib.hid ((HQ.out.ab hb1).far (fun e => by have h1 := HQ.out.ab hb1; rw [e] at h1; exact absurd rfl (cb_neX h1 T1.box (by decide))) _)
  have k1 : Stp (fun τ => τ = (s, x.2.n)) w O (w0.drewN nq) (cutTg O w.heap.size) := (Stp.cut HA.out _).ab hb1
  obtain ⟨w6, hw6⟩ : ∃ w6, (w0.drewN nq).setCell ⟨x.1, 6, none⟩ (.bool false) = w6 := ⟨_, rfl⟩
  rw [hw6] at md Q1 ⊢
  obtain ⟨md1, md2⟩ := md
  have XN := (fnd_mem HFN.out).2
  rw [XN] at md1 k1
  have K6 := Lib.hid (k1.tr md1)
  have OKT : TnOk (setTu x.2 false) := by have h1 := OKX.out; exact ⟨h1.n1, h1.n32, h1.sec, h1.q1, h1.q2⟩
  have M1 := Lib.hid (HMW.out.upd (t' := setTu x.2 false) HFN.out K6.out XN OKT ⟨_, _, _, _, _, md2⟩)
  have S1 : Hid (Stp (fun τ => τ.1 = s) w O w6 (cutTg O w.heap.size)) := Lib.hid (K6.out.imp fun τ e => by rw [e])
  clear hw6 md1 md2 XN OKT hb1 k1 T1 d4 d6 f6
  go_wp2_with (first
    | (with_reducible refine wpList_storeC (o := ⟨none, .store _ (.tmp 4) (.tmp 35), _, _, _, _⟩) ?_ 40 (.tmp 4) (.tmp 35) ?_ (w.heap.size + 1) ?_ (ansE 0) ?_ (cs := ansE 0) (t := 40) Q1.out (szAnsE _) ?_ (ansE_one _) ?_
       · rfl
       · rfl
       · rfl
       · rfl
       · rfl
       intro wz hwz
       have QZ : Hid (CbB wz (w.heap.size + 1) 40 (ansE 0)) := Lib.hid (by rw [hwz]; exact CbB.row Q1.out _)
       have FZ : Hid (Fr w6 wz (fun k => k = (w.heap.size + 1))) := Lib.hid (by rw [hwz]; exact fr_rowX _ _ _)
       clear hwz))
  refine bodyPost_ret (ans_results Tryz.results43 _ _ (w.heap.size + 1) (ansE 0) rfl QZ.out rfl) rfl ?_
  exact DoR.flat 0 0 0 0 ⟨m, _, M1.out.stp (Stp.box FZ.out (cutTg_at (Nat.le_succ _))) fun i e => by have := M1.out.pos; injection e with e; omega⟩ (S1.out.fresh FZ.out (Nat.le_succ _))
set_option maxRecDepth 100000 in
set_option maxHeartbeats 2000000 in
theorem id_root (h : IdM w O s blocks T m bs) :
    Calls Tryz.prog 44 #[.pointer (some ⟨s, 0, none⟩), .agg c.cs] w (DoR s blocks w O (errA 0) T) := by
  have ha : Below w.heap.size w ((w.alloc (.cells #[.int .i64 c.kind, .int .u32 (c.ten : Int), .slice c.sec.A c.sec.n c.sec.c, .int .i64 c.quota, .int .i64 c.n, .int .u64 (c.hd : Int), .int .u64 (c.oth : Int), .int .u64 (c.sn : Int), .int .u8 (c.rt : Int), .slice c.oA c.oN c.oC, .slice c.key.A c.key.n c.key.c, .slice c.frm.A c.frm.n c.frm.c, .slice c.upto.A c.upto.n c.upto.c, .bool c.back] 36)).alloc (.cells #[.int .i64 0, .int .u64 0, .int .u64 0, .slice none 0 0, .slice none 0 0, .int .i64 0, .slice none 0 0] 40)) := ((Below.refl _ _).alloc (Nat.le_refl _) _).alloc (by simp) _
  have hcb : CbB ((w.alloc (.cells #[.int .i64 c.kind, .int .u32 (c.ten : Int), .slice c.sec.A c.sec.n c.sec.c, .int .i64 c.quota, .int .i64 c.n, .int .u64 (c.hd : Int), .int .u64 (c.oth : Int), .int .u64 (c.sn : Int), .int .u8 (c.rt : Int), .slice c.oA c.oN c.oC, .slice c.key.A c.key.n c.key.c, .slice c.frm.A c.frm.n c.frm.c, .slice c.upto.A c.upto.n c.upto.c, .bool c.back] 36)).alloc (.cells #[.int .i64 0, .int .u64 0, .int .u64 0, .slice none 0 0, .slice none 0 0, .int .i64 0, .slice none 0 0] 40)) w.heap.size 36 c.cs := (CbB.new w _ _).ab ((Below.refl _ _).alloc (Nat.le_refl _) _)
  have hqb : CbB ((w.alloc (.cells #[.int .i64 c.kind, .int .u32 (c.ten : Int), .slice c.sec.A c.sec.n c.sec.c, .int .i64 c.quota, .int .i64 c.n, .int .u64 (c.hd : Int), .int .u64 (c.oth : Int), .int .u64 (c.sn : Int), .int .u8 (c.rt : Int), .slice c.oA c.oN c.oC, .slice c.key.A c.key.n c.key.c, .slice c.frm.A c.frm.n c.frm.c, .slice c.upto.A c.upto.n c.upto.c, .bool c.back] 36)).alloc (.cells #[.int .i64 0, .int .u64 0, .int .u64 0, .slice none 0 0, .slice none 0 0, .int .i64 0, .slice none 0 0] 40)) (w.heap.size + 1) 40 (ansE 0) := CbB.newI (by simp)
  unfold CallP.cs at hcb ⊢
  go_enter Tryz.func44, Tryz.ntmps44
  go_upto_region 1 with (fail)
  obtain ⟨w0, hw0⟩ : ∃ w0, ((w.alloc (.cells #[.int .i64 c.kind, .int .u32 (c.ten : Int), .slice c.sec.A c.sec.n c.sec.c, .int .i64 c.quota, .int .i64 c.n, .int .u64 (c.hd : Int), .int .u64 (c.oth : Int), .int .u64 (c.sn : Int), .int .u8 (c.rt : Int), .slice c.oA c.oN c.oC, .slice c.key.A c.key.n c.key.c, .slice c.frm.A c.frm.n c.frm.c, .slice c.upto.A c.upto.n c.upto.c, .bool c.back] 36)).alloc (.cells #[.int .i64 0, .int .u64 0, .int .u64 0, .slice none 0 0, .slice none 0 0, .int .i64 0, .slice none 0 0] 40)) = w0 := ⟨_, rfl⟩
  rw [hw0] at ha hcb hqb ⊢
  clear hw0
  have HA := Lib.hid ha
  have Q1 := Lib.hid hqb
  have M1 := Lib.hid (h.stp (Stp.cut ha (fun _ => False)) fun _ h => h)
  have S1 : Hid (Stp (fun τ => τ.1 = s) w O w0 (cutTg O w.heap.size)) := Lib.hid (Stp.cut ha (fun τ => τ.1 = s))
  clear h ha hqb hcb
  go_wp2_with (first
    | (with_reducible refine wpList_storeC (o := ⟨none, .store _ (.tmp 4) (.tmp 5), _, _, _, _⟩) ?_ 40 (.tmp 4) (.tmp 5) ?_ (w.heap.size + 1) ?_ (ansE 0) ?_ (cs := ansE 0) (t := 40) Q1.out (szAnsE _) ?_ (ansE_one _) ?_
       · rfl
       · rfl
       · rfl
       · rfl
       · rfl
       intro wz hwz
       have QZ : Hid (CbB wz (w.heap.size + 1) 40 (ansE 0)) := Lib.hid (by rw [hwz]; exact CbB.row Q1.out _)
       have FZ : Hid (Fr w0 wz (fun k => k = (w.heap.size + 1))) := Lib.hid (by rw [hwz]; exact fr_rowX _ _ _)
       clear hwz))
  refine bodyPost_ret (ans_results Tryz.results44 _ _ (w.heap.size + 1) (ansE 0) rfl QZ.out rfl) rfl ?_
  exact DoR.flat 0 0 0 0 ⟨m, _, M1.out.stp (Stp.box FZ.out (cutTg_at (Nat.le_succ _))) fun i e => by have := M1.out.pos; injection e with e; omega⟩ (S1.out.fresh FZ.out (Nat.le_succ _))
set_option maxRecDepth 100000 in
set_option maxHeartbeats 2000000 in
theorem id_remove_ok (x : Nat × TnP) (h : IdM w O s blocks T m bs) (hc : c.Ok) (hf : fnd bs c.ten = some x) :
    Calls Tryz.prog 40 #[.pointer (some ⟨s, 0, none⟩), .agg c.cs] w (DoR s blocks w O (errA 0) (T.filter fun t => !decide (t.n = c.ten))) := by
  obtain ⟨cb, mo, sm, nb, es, ht⟩ := h.all x (fnd_mem hf).1
  have ha : Below w.heap.size w ((w.alloc (.cells #[.int .i64 c.kind, .int .u32 (c.ten : Int), .slice c.sec.A c.sec.n c.sec.c, .int .i64 c.quota, .int .i64 c.n, .int .u64 (c.hd : Int), .int .u64 (c.oth : Int), .int .u64 (c.sn : Int), .int .u8 (c.rt : Int), .slice c.oA c.oN c.oC, .slice c.key.A c.key.n c.key.c, .slice c.frm.A c.frm.n c.frm.c, .slice c.upto.A c.upto.n c.upto.c, .bool c.back] 36)).alloc (.cells #[.int .i64 0, .int .u64 0, .int .u64 0, .slice none 0 0, .slice none 0 0, .int .i64 0, .slice none 0 0] 40)) := ((Below.refl _ _).alloc (Nat.le_refl _) _).alloc (by simp) _
  have hcb : CbB ((w.alloc (.cells #[.int .i64 c.kind, .int .u32 (c.ten : Int), .slice c.sec.A c.sec.n c.sec.c, .int .i64 c.quota, .int .i64 c.n, .int .u64 (c.hd : Int), .int .u64 (c.oth : Int), .int .u64 (c.sn : Int), .int .u8 (c.rt : Int), .slice c.oA c.oN c.oC, .slice c.key.A c.key.n c.key.c, .slice c.frm.A c.frm.n c.frm.c, .slice c.upto.A c.upto.n c.upto.c, .bool c.back] 36)).alloc (.cells #[.int .i64 0, .int .u64 0, .int .u64 0, .slice none 0 0, .slice none 0 0, .int .i64 0, .slice none 0 0] 40)) w.heap.size 36 c.cs := (CbB.new w _ _).ab ((Below.refl _ _).alloc (Nat.le_refl _) _)
  have hqb : CbB ((w.alloc (.cells #[.int .i64 c.kind, .int .u32 (c.ten : Int), .slice c.sec.A c.sec.n c.sec.c, .int .i64 c.quota, .int .i64 c.n, .int .u64 (c.hd : Int), .int .u64 (c.oth : Int), .int .u64 (c.sn : Int), .int .u8 (c.rt : Int), .slice c.oA c.oN c.oC, .slice c.key.A c.key.n c.key.c, .slice c.frm.A c.frm.n c.frm.c, .slice c.upto.A c.upto.n c.upto.c, .bool c.back] 36)).alloc (.cells #[.int .i64 0, .int .u64 0, .int .u64 0, .slice none 0 0, .slice none 0 0, .int .i64 0, .slice none 0 0] 40)) (w.heap.size + 1) 40 (ansE 0) := CbB.newI (by simp)
  unfold CallP.cs at hcb ⊢
  go_enter Tryz.func40, Tryz.ntmps40
  go_upto_region 1 with (fail)
  obtain ⟨w0, hw0⟩ : ∃ w0, ((w.alloc (.cells #[.int .i64 c.kind, .int .u32 (c.ten : Int), .slice c.sec.A c.sec.n c.sec.c, .int .i64 c.quota, .int .i64 c.n, .int .u64 (c.hd : Int), .int .u64 (c.oth : Int), .int .u64 (c.sn : Int), .int .u8 (c.rt : Int), .slice c.oA c.oN c.oC, .slice c.key.A c.key.n c.key.c, .slice c.frm.A c.frm.n c.frm.c, .slice c.upto.A c.upto.n c.upto.c, .bool c.back] 36)).alloc (.cells #[.int .i64 0, .int .u64 0, .int .u64 0, .slice none 0 0, .slice none 0 0, .int .i64 0, .slice none 0 0] 40)) = w0 := ⟨_, rfl⟩
  rw [hw0] at ha hcb hqb ⊢
  clear hw0
  have c1 := (hcb).cell (k := 1) rfl
  have hlk := fun k : Nat => map_look (w := w0.drewN k) ((h.map.ab ha).same rfl) (n := c.ten) hc.ten
  simp only [hf, Option.map_some] at hlk
  have s1 := (h.box.ab ha).cell (k := 1) rfl
  have d4 := (ht.box.ab ha).cell (k := 4) rfl
  have d6 := (ht.box.ab ha).cell (k := 6) rfl
  have f6 := (ht.box.ab ha).free 6
  have TT := Lib.hid fun k => ht.stp (Stp.cut (bel_drewN ha k) (fun _ => False)) fun h => h
  have HMW := Lib.hid h
  have HTW := Lib.hid ht
  have HFN := Lib.hid hf
  have OKX := Lib.hid (h.ok x (fnd_mem hf).1)
  have HA := Lib.hid ha
  have HQ := Lib.hid hqb
  have HB := Lib.hid hcb
  have M0 := h.stp (Stp.cut ha (fun _ => False)) fun _ h => h
  have HM := Lib.hid M0
  have MP := Lib.hid fun k : Nat => (h.map.ab (bel_drewN ha k))
  have C32 := Lib.hid hc.ten
  clear h ha hqb hcb hc M0 hf ht
  go_quiet (fail)
  go_upto_region 3 with (fail)
  have hb1 : Below w0.heap.size w0 (w0.drewN nq) := bel_drewN (Below.refl _ _) _
  have Q0 := HQ.out.ab hb1
  have B0 := HB.out.ab hb1
  have M0 := HM.out.stp (Stp.of hb1 (fun _ => False) fun _ _ => rfl) fun _ h => h
  have S0 : Stp (fun τ => τ.1 = s) w O (w0.drewN nq) (cutTg O w.heap.size) := (Stp.cut HA.out (fun τ => τ.1 = s)).ab hb1
  obtain ⟨w1, hw1⟩ : ∃ w1, w0.drewN nq = w1 := ⟨_, rfl⟩
  rw [hw1] at Q0 B0 M0 S0 ⊢
  have Q1 := Lib.hid Q0
  have B1 := Lib.hid B0
  have M1 := Lib.hid M0
  have S1 := Lib.hid S0
  clear hw1 Q0 B0 M0 S0 hb1 d4 d6 f6 hlk s1 c1
  refine wp_wide3 [⟨14, IsR (.pointer (some ⟨s, 0, none⟩)), [], false⟩, ⟨15, IsR (.pointer (some ⟨s, 0, none⟩)), [0], false⟩, ⟨16, IsR (.pointer (some ⟨s, 1, none⟩)), [1], false⟩, ⟨17, IsR (.map (some m)), [2], false⟩, ⟨18, IsR (.pointer (some ⟨w.heap.size, 1, none⟩)), [], false⟩, ⟨19, IsR (.int .u32 (c.ten : Int)), [4], false⟩] (by kernel_rfl) (by kernel_rfl) rfl rfl rfl ⟨?_, ?_, ?_, ?_, ?_, ?_, trivial⟩ ?_
  · refine ⟨rfl, IsR.mono _, fun a W hA hb hd => takes_plain rfl (yields_value _ ?_ rfl)⟩
    have h0 : a.tmps[0]?.getD undef = .pointer (some ⟨s, 0, none⟩) := (eval_get a 0).trans ((hA.eval (by simp)).trans rfl)
    go_simp
  · refine ⟨rfl, IsR.mono _, fun a W hA hb hd => takes_plain rfl (yields_value _ ?_ rfl)⟩
    have h14 : a.tmps[14]?.getD undef = .pointer (some ⟨s, 0, none⟩) := (eval_get a 14).trans (hd 0 (by simp) _ rfl)
    go_simp
  · refine ⟨rfl, IsR.mono _, fun a W hA hb hd => takes_plain rfl (yields_value _ ?_ rfl)⟩
    have h15 : a.tmps[15]?.getD undef = .pointer (some ⟨s, 0, none⟩) := (eval_get a 15).trans (hd 1 (by simp) _ rfl)
    go_simp
  · refine ⟨rfl, IsR.mono _, fun a W hA hb hd => takes_plain rfl (yields_value _ ?_ rfl)⟩
    have h16 : a.tmps[16]?.getD undef = .pointer (some ⟨s, 1, none⟩) := (eval_get a 16).trans (hd 2 (by simp) _ rfl)
    have hc : W.cell? (⟨s, 1, none⟩) = some (.map (some m)) := (M1.out.box.ab hb).cell (k := 1) rfl
    go_simp
  · refine ⟨rfl, IsR.mono _, fun a W hA hb hd => takes_plain rfl (yields_value _ ?_ rfl)⟩
    have h3 : a.tmps[3]?.getD undef = .pointer (some ⟨w.heap.size, 0, none⟩) := (eval_get a 3).trans ((hA.eval (by simp)).trans rfl)
    go_simp
  · refine ⟨rfl, IsR.mono _, fun a W hA hb hd => takes_plain rfl (yields_value _ ?_ rfl)⟩
    have h18 : a.tmps[18]?.getD undef = .pointer (some ⟨w.heap.size, 1, none⟩) := (eval_get a 18).trans (hd 4 (by simp) _ rfl)
    have hc : W.cell? (⟨w.heap.size, 1, none⟩) = some (.int .u32 (c.ten : Int)) := (B1.out.ab hb).cell (k := 1) rfl
    go_simp
  intro vs W9 hR hF hb
  have e14 : vs 14 = .pointer (some ⟨s, 0, none⟩) := hR 0 _ rfl
  have e15 : vs 15 = .pointer (some ⟨s, 0, none⟩) := hR 1 _ rfl
  have e16 : vs 16 = .pointer (some ⟨s, 1, none⟩) := hR 2 _ rfl
  have e17 : vs 17 = .map (some m) := hR 3 _ rfl
  have e18 : vs 18 = .pointer (some ⟨w.heap.size, 1, none⟩) := hR 4 _ rfl
  have e19 : vs 19 = .int .u32 (c.ten : Int) := hR 5 _ rfl
  simp only [List.map_cons, List.map_nil, List.foldl_cons, List.foldl_nil, List.length_cons, List.length_nil, List.drop_succ_cons, List.drop_zero, Act.put, List.setIfInBounds_toArray, List.set_cons_zero, List.set_cons_succ, e14, e15, e16, e17, e18, e19]
  have M9 := Lib.hid (M1.out.stp (Stp.of hb (fun _ => False) fun _ _ => rfl) fun _ h => h)
  have Q9 := Lib.hid (Q1.out.ab hb)
  have S9 := Lib.hid (S1.out.ab hb)
  clear hR hF hb
  refine wpList_mapDel rfl (.tmp 17) (.tmp 19) rfl u32_K Tryz.underlying62 rfl M9.out.map c.ten C32.out rfl ?_
  intro w2 h2 g2 s2 b2
  have mne : s ≠ m := fun e => by
    have h5 := M9.out.box
    obtain ⟨es', cl, h6, _⟩ := M9.out.map
    unfold CbB at h5
    rw [e, h6] at h5
    cases h5
  have stm : Stp (fun τ => τ = (s, 0)) W9 (cutTg O w.heap.size) w2 (cutTg O w.heap.size) := Stp.map g2 M9.out.om rfl
  have qne : w.heap.size + 1 ≠ m := fun e => by
    have h5 := Q9.out
    obtain ⟨es', cl, h6, _⟩ := M9.out.map
    unfold CbB at h5
    rw [e, h6] at h5
    cases h5
  have Q1 := Lib.hid (Q9.out.grown g2 qne)
  have M1 := Lib.hid (M9.out.del (M9.out.box.grown g2 mne) stm h2)
  have S1 := Lib.hid (S9.out.tr (stm.imp fun τ e => by rw [e]))
  clear h2 g2 s2 b2 mne stm qne
  simp only [Act.put]
  go_wp2_with (first
    | (with_reducible refine wpList_storeC (o := ⟨none, .store _ (.tmp 4) (.tmp 20), _, _, _, _⟩) ?_ 40 (.tmp 4) (.tmp 20) ?_ (w.heap.size + 1) ?_ (ansE 0) ?_ (cs := ansE 0) (t := 40) Q1.out (szAnsE _) ?_ (ansE_one _) ?_
       · rfl
       · rfl
       · rfl
       · rfl
       · rfl
       intro wz hwz
       have QZ : Hid (CbB wz (w.heap.size + 1) 40 (ansE 0)) := Lib.hid (by rw [hwz]; exact CbB.row Q1.out _)
       have FZ : Hid (Fr w2 wz (fun k => k = (w.heap.size + 1))) := Lib.hid (by rw [hwz]; exact fr_rowX _ _ _)
       clear hwz))
  refine bodyPost_ret (ans_results Tryz.results40 _ _ (w.heap.size + 1) (ansE 0) rfl QZ.out rfl) rfl ?_
  exact DoR.flat 0 0 0 0 ⟨m, _, M1.out.stp (Stp.box FZ.out (cutTg_at (Nat.le_succ _))) fun i e => by have := M1.out.pos; injection e with e; omega⟩ (S1.out.fresh FZ.out (Nat.le_succ _))

end
end Go.Proofs.YtnnjmelibmiimaaGreat
