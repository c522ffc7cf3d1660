/-
  IDEAL: scan: the walks.
-/
import Derived.Test.YtnnjmelibmiimaaGreatBdq
namespace Go.Proofs.YtnnjmelibmiimaaGreat
open Go.RowKit Go.Sort
set_option linter.unusedVariables false
set_option linter.unusedSimpArgs false

/-- pairs that the call has made -/
def PrN (w : World) (N : Nat) (v : Value) (l : Bk2) : Prop :=
  ∃ vs : List (Value × Value), w.ownsRow N 95 2 v l.length (vs.flatMap fun p => [p.1, p.2]) ∧ vs.length = l.length ∧
    ∀ (i : Nat) (p : Value × Value) (q : Ky × List Nat), vs[i]? = some p → l[i]? = some q → (∃ k, KyB w N p.1 k ∧ k8 k = q.1) ∧ OwB w N p.2 q.2
section
variable {w w' : World} {N : Nat} {v : Value} {l : Bk2}
theorem PrN.nil (w : World) (N : Nat) : PrN w N (.slice none 0 0) [] := ⟨[], World.ownsRow_nil _ _ _ _, rfl, fun i p q hi => (by simp at hi)⟩
theorem KyB.ab {kl : List Nat} (h : KyB w N v kl) (hb : Below w.heap.size w w') : KyB w' N v kl := by
  obtain ⟨g, n, cap, cs, fr, rfl, h1, h2, h3⟩ := h
  exact ⟨g, n, cap, cs, fr, rfl, h1, (hb.block g (lt_of_block h2)).trans h2, h3.ab hb⟩
theorem KyB.gr {kl : List Nat} {row : Option Nat} {ms : Array Value} {mt : Nat × Nat} {T : TypeId} (h : KyB w N v kl) (hg : w.grownBy w' row) (hr : ∀ g, row = some g → w.heap[g]? = some (.cells ms T mt)) (hT : T ≠ 5) : KyB w' N v kl := by
  obtain ⟨g, n, cap, cs, fr, rfl, h1, h2, h3⟩ := h
  have hne : ∀ q, row = some q → q ≠ g := fun q hq e => by
    have := hr q hq
    rw [e, h2] at this
    injection this with this
    injection this with _ this
    exact hT this.symm
  refine ⟨g, n, cap, cs, fr, rfl, h1, (hg.block g (lt_of_block h2) (fun e => hne _ e.symm rfl)).trans h2, isB_frZ h3 (Fr.grown hg) fun hn x e e2 => ?_⟩
  injection e with e
  subst e
  exact hne _ e2 rfl
theorem PrN.ab (h : PrN w N v l) (hb : Below w.heap.size w w') : PrN w' N v l := by
  obtain ⟨vs, h1, h2, h3⟩ := h
  refine ⟨vs, row_fr h1 (Fr.of hb (fun _ => False)) (fun k hk e => e), h2, fun i p q hp hq => ?_⟩
  obtain ⟨⟨k, k1, k2⟩, k3⟩ := h3 i p q hp hq
  exact ⟨⟨k, k1.ab hb, k2⟩, k3.ab hb⟩
theorem infoP : (Tryz.prog.info? 95).map (fun i => (i.zero, i.size, i.bytes)) = some (some (.agg #[.slice none 0 0, .slice none 0 0]), 2, 48) := by kernel_rfl
set_option maxRecDepth 100000 in
theorem wpList_appP {rest : List Oper} {ops : Array Oper} {o : Oper} {a : Act} {Q : Exit → Act → World → Prop} (hgd : o.guard = none) (s x : Operand)
    (ho : o.op = .call { callee := .builtin .append, args := #[s, x], argTypes := #[37, 37] }) (h : PrN w N v l) (hs : a.eval s = v)
    {G : Nat} {kv uv : Value} (hx : a.eval x = .slice (some ⟨G, 0, none⟩) 1 1) (hG : CbB w G 95 #[kv, uv]) {kl u : List Nat} (hk : KyB w N kv kl) (hu : OwB w N uv u) (hl : l.length ≤ 100000) (hN : N ≤ w.heap.size)
    (K : ∀ v' w', PrN w' N v' (l ++ [(k8 kl, u)]) → Below N w w' → wpList Tryz.prog ops Q rest (a.put o.dst v') w') : wpList Tryz.prog ops Q (o :: rest) a w := by
  obtain ⟨i0, hi0, hz0, hz1, hz2⟩ := info_parts infoP
  obtain ⟨vs, h1, h2, h3⟩ := h
  obtain ⟨A1, n1, c1, hk1⟩ : ∃ A n c, kv = .slice A n c := by obtain ⟨g, n, cap, cs, fr, e, _⟩ := id hk; exact ⟨_, _, _, e⟩
  obtain ⟨A2, n2, c2, hu1⟩ := row_sl hu.own
  obtain ⟨v1, W1, hrun, r1, r2, _⟩ := run_append_own (P := Tryz.prog) w N 37 o.type 95 i0 _ 2 48 Tryz.underlying37 hi0 hz0 hz1 hz2 rfl (by decide) v l.length (vs.flatMap fun p => [p.1, p.2]) h1 ⟨G, 0, none⟩ 1 1 [kv, uv] rfl (row_at hG) (by rw [hk1, hu1]; simp [Value.oneCell']) (by simp only [maxLen]; omega) (by omega) hN
  refine wpList_plain hgd fun K' hK' => ?_
  unfold Oper.wp execOp
  simp only [ho, resolve, invoke, builtin, Sem.run_bind, Sem.run_pure, Result.andThen_ok, List.map_toArray, List.map_cons, List.map_nil, hs, hx, hrun]
  have hty : ∀ g, v.ownBlock = some g → ∃ ms, w.heap[g]? = some (.cells ms 95 (0, 0)) := fun g hg => by
    rcases h1.2 with ⟨rfl, _⟩ | ⟨g', cap, cur, rfl, _, hb, _⟩
    · cases hg
    · simp only [Value.ownBlock, Option.some.injEq] at hg
      subst hg
      exact ⟨_, hb⟩
  have kgr : ∀ {z : Value} {zl : List Nat}, KyB w N z zl → KyB W1 N z zl := fun {z zl} hz => by
    cases ho2 : v.ownBlock with
    | none => exact hz.gr (ms := #[]) (mt := (0, 0)) (T := 95) r2 (fun g e => by rw [ho2] at e; cases e) (by decide)
    | some g0 =>
      obtain ⟨ms, hms⟩ := hty g0 ho2
      exact hz.gr r2 (fun g e => by rw [ho2] at e; injection e with e; subst e; exact hms) (by decide)
  have ogr : ∀ {z : Value} {zl : List Nat}, OwB w N z zl → OwB W1 N z zl := fun {z zl} hz => by
    refine hz.fr (Fr.grown r2) fun g hg e => ?_
    obtain ⟨ms, hms⟩ := hty g e
    rcases hz.own.2 with ⟨rfl, _⟩ | ⟨g', cap, cur, rfl, _, hb, _⟩
    · cases hg
    · simp only [Value.ownBlock, Option.some.injEq] at hg
      subst hg
      rw [hb] at hms
      injection hms with hms
      injection hms with _ hms
      exact absurd hms (by decide)
  refine hK' _ _ (K v1 W1 ⟨vs ++ [(kv, uv)], ?_, by simp [h2], fun i p q hp hq => ?_⟩ ((Below.refl N w).grown r2 hN (own_ge9 h1)))
  · rw [List.flatMap_append, List.length_append]
    simpa using r1
  · by_cases hi : i < vs.length
    · rw [List.getElem?_append_left hi] at hp
      rw [List.getElem?_append_left (by omega)] at hq
      obtain ⟨⟨k, k1, k2⟩, k3⟩ := h3 i p q hp hq
      exact ⟨⟨k, kgr k1, k2⟩, ogr k3⟩
    · rw [List.getElem?_append_right (by omega)] at hp hq
      have e0 : i - vs.length = 0 := by
        rcases Nat.eq_zero_or_pos (i - vs.length) with h0 | h0
        · exact h0
        · rw [show i - vs.length = (i - vs.length - 1) + 1 by omega] at hp; simp at hp
      rw [e0] at hp
      rw [show i - l.length = 0 by omega] at hq
      simp only [List.getElem?_cons_zero, Option.some.injEq] at hp hq
      subst hp hq
      exact ⟨⟨kl, kgr hk, rfl⟩, ogr hu⟩
end
/-- a string's bytes, with what is in them -/
theorem k8_back (k : Ky) : k8 (k.map (·.toNat)) = k := by
  unfold k8
  rw [List.map_map]
  conv => rhs; rw [← List.map_id k]
  refine List.map_congr_left fun x _ => ?_
  simp
theorem str_bytesK (w : World) (k : Ky) (hk : kyOk k) : ∃ cap w', (convert 9 31 (.string ⟨k.toArray⟩)).run Tryz.prog w = .ok (.slice (some ⟨w.heap.size, 0, none⟩) k.length cap) w' ∧ Below w.heap.size w w' ∧ KyB w' w.heap.size (.slice (some ⟨w.heap.size, 0, none⟩) k.length cap) (k.map (·.toNat)) := by
  have h := Lib.run_convert_string_bytes (P := Tryz.prog) w 9 31 5 ⟨k.toArray⟩ Tryz.underlying9 Tryz.underlying31 Tryz.underlying5
  have hs : (⟨k.toArray⟩ : ByteArray).size = k.length := by show k.toArray.size = k.length; simp
  rw [hs] at h
  have hkl : k.length ≤ maxLen := Nat.le_trans hk (by decide)
  refine ⟨_, _, h, below_bytes _ _ _, w.heap.size, k.length, _, _, _, rfl, Nat.le_refl _, Lib.bytesWorld_at_new w 5 ⟨k.toArray⟩, ⟨⟨by simp, grownCap_ge _ _ _ _, Nat.le_trans (grownCap_le_maxLen w _ _ _ hkl) (by decide), byt_wf ?_, .inr ⟨⟨w.heap.size, 0, none⟩, rfl, fun _ => by rw [Lib.bytesWorld_size]; exact Nat.lt_succ_self _, fun i hi => ?_⟩⟩, ?_⟩⟩
  · intro x hx
    obtain ⟨y, _, rfl⟩ := List.mem_map.1 hx
    exact y.toNat_lt
  · have e : (⟨w.heap.size, 0, none⟩ : Addr).add i = ⟨w.heap.size, i, none⟩ := by rw [Addr.add_mid, Nat.zero_add]
    rw [e, Lib.bytesWorld_cell w 5 ⟨k.toArray⟩ i (by rw [hs]; exact hi)]
    simp [List.getD_eq_getElem?_getD, hi]
  · intro x hx
    obtain ⟨y, _, rfl⟩ := List.mem_map.1 hx
    exact y.toNat_lt
/-- what scan tells -/
def scanK (c : CallP) (S : Bk2) : List Ky := (bif c.back then ((kysK S).filter fun k => !delP c.frm.l c.upto.l k).reverse else (kysK S).filter fun k => !delP c.frm.l c.upto.l k).take c.n.toNat
def prsK (S : Bk2) (ks : List Ky) : Bk2 := ks.map fun k => (k, (getK k S).getD [])
def prsA (l : Bk2) : AnsP := ⟨0, 0, 0, [], l, 0, []⟩
theorem kysK_mem {S : Bk2} {k : Ky} (h : k ∈ kysK S) : ∃ u, getK k S = some u := by
  unfold kysK at h
  have h2 := (List.mergeSort_perm _ _).mem_iff.1 h
  cases hg : getK k S with
  | some u => exact ⟨u, rfl⟩
  | none =>
    obtain ⟨p, hp, e⟩ := List.mem_map.1 h2
    unfold getK at hg
    rw [Option.map_eq_none_iff, List.find?_eq_none] at hg
    exact absurd (hg p hp) (by simp [e])
theorem BokB.ok {w : World} {O : Tg} {b : Nat} {S : Bk2} (h : BokB w O b S) : ∀ p ∈ S, kyOk p.1 := fun p hp => by
  obtain ⟨es, l, h1, h2, h3⟩ := h
  have hp2 := h3.mem_iff.2 hp
  have : p.1 ∈ es.map (·.1) := by rw [h2.keys]; exact List.mem_map.2 ⟨p, hp2, rfl⟩
  obtain ⟨q, hq, e⟩ := List.mem_map.1 this
  rw [← e]
  exact h1.oks q hq
theorem wpList_min2 {ops : Array Oper} {rest : List Oper} {o : Oper} {a : Act} {w : World} {Q : Exit → Act → World → Prop} (hgd : o.guard = none) (x y : Operand)
    (ho : o.op = .call { callee := .builtin .min, args := #[x, y], argTypes := #[3, 3] }) (p q m : Nat) (hx : a.eval x = .int .i64 (p : Int)) (hy : a.eval y = .int .i64 (q : Int)) (hm : m = min p q)
    (h : wpList Tryz.prog ops Q rest (a.put o.dst (.int .i64 (m : Int))) w) : wpList Tryz.prog ops Q (o :: rest) a w := by
  have hu := Tryz.underlying3
  refine wpList_plain hgd fun K hK => ?_
  have hK := hK _ _ h
  unfold Oper.wp execOp
  have e : (m : Int) = min (p : Int) (q : Int) := by omega
  rw [e] at hK
  simp only [ho, hx, hy, resolve, List.map_toArray, List.map_cons, List.map_nil]
  clear hm h e
  go_simp
  exact hK
theorem sl_sizeS (W : World) : (sizeOf (Tryz.prog.elem 96)).run Tryz.prog W = .ok 1 W := by
  have h : (Tryz.prog.info? (Tryz.prog.elem 96)).map (·.size) = some 1 := by kernel_rfl
  cases hq : Tryz.prog.info? (Tryz.prog.elem 96) with
  | none => rw [hq] at h; cases h
  | some i => rw [hq] at h; simp only [Option.map_some, Option.some.injEq] at h; simp [sizeOf, typeInfo, hq, h]
theorem sl_uptoS (W : World) (A : Option Addr) (n c m : Nat) (hm : m ≤ c) : (Instr.sliceAt 96 (.slice A n c) none (some (.int .i64 (m : Int))) none).run Tryz.prog W = .ok (.slice A m c) W := by
  have h : Tryz.prog.underlying 96 = some (.slice (Tryz.prog.elem 96)) := by kernel_rfl
  rw [run_sliceAt_slice W _ _ _ _ _ h, run_slice_h W _ _ _ _ h .i64 (m : Int) (by omega) (by omega), sl_sizeS]
  simp only [Result.andThen_ok, sliced, Nat.zero_mul, Int.toNat_natCast, Nat.sub_zero, add_zero', ite_self]

section
variable {w : World} {O : Tg} {s blocks m : Nat} {T : List TnP} {bs : List (Nat × TnP)} {c : CallP}
set_option maxRecDepth 100000 in
set_option maxHeartbeats 1000000 in
theorem id_scan_low (x : Nat × TnP) (h : IdM w O s blocks T m bs) (hc : c.Ok) (hf : fnd bs (c.hd / 4294967296) = some x) (hk : checkH x.2.A (c.hd % 4294967296) 1 = 0) (n0 : decide (c.n < 0) = true) :
    Calls Tryz.prog 51 #[.pointer (some ⟨s, 0, none⟩), .agg c.cs] w (DoR s blocks w O (errA 2) T) := by
  obtain ⟨cb, mo, sm, nb, es, ht⟩ := h.all x (fnd_mem hf).1
  have ha : Below w.heap.size w ((w.alloc (.cells #[.int .i64 c.kind, .int .u32 (c.ten : Int), .slice c.sec.A c.sec.n c.sec.c, .int .i64 c.quota, .int .i64 c.n, .int .u64 (c.hd : Int), .int .u64 (c.oth : Int), .int .u64 (c.sn : Int), .int .u8 (c.rt : Int), .slice c.oA c.oN c.oC, .slice c.key.A c.key.n c.key.c, .slice c.frm.A c.frm.n c.frm.c, .slice c.upto.A c.upto.n c.upto.c, .bool c.back] 36)).alloc (.cells #[.int .i64 0, .int .u64 0, .int .u64 0, .slice none 0 0, .slice none 0 0, .int .i64 0, .slice none 0 0] 40)) := ((Below.refl _ _).alloc (Nat.le_refl _) _).alloc (by simp) _
  have hcb : CbB ((w.alloc (.cells #[.int .i64 c.kind, .int .u32 (c.ten : Int), .slice c.sec.A c.sec.n c.sec.c, .int .i64 c.quota, .int .i64 c.n, .int .u64 (c.hd : Int), .int .u64 (c.oth : Int), .int .u64 (c.sn : Int), .int .u8 (c.rt : Int), .slice c.oA c.oN c.oC, .slice c.key.A c.key.n c.key.c, .slice c.frm.A c.frm.n c.frm.c, .slice c.upto.A c.upto.n c.upto.c, .bool c.back] 36)).alloc (.cells #[.int .i64 0, .int .u64 0, .int .u64 0, .slice none 0 0, .slice none 0 0, .int .i64 0, .slice none 0 0] 40)) w.heap.size 36 c.cs := (CbB.new w _ _).ab ((Below.refl _ _).alloc (Nat.le_refl _) _)
  have hqb : CbB ((w.alloc (.cells #[.int .i64 c.kind, .int .u32 (c.ten : Int), .slice c.sec.A c.sec.n c.sec.c, .int .i64 c.quota, .int .i64 c.n, .int .u64 (c.hd : Int), .int .u64 (c.oth : Int), .int .u64 (c.sn : Int), .int .u8 (c.rt : Int), .slice c.oA c.oN c.oC, .slice c.key.A c.key.n c.key.c, .slice c.frm.A c.frm.n c.frm.c, .slice c.upto.A c.upto.n c.upto.c, .bool c.back] 36)).alloc (.cells #[.int .i64 0, .int .u64 0, .int .u64 0, .slice none 0 0, .slice none 0 0, .int .i64 0, .slice none 0 0] 40)) (w.heap.size + 1) 40 (ansE 0) := CbB.newI (by simp)
  unfold CallP.cs at hcb ⊢
  go_enter Tryz.func51, Tryz.ntmps51
  go_upto_region 1 with (fail)
  obtain ⟨w0, hw0⟩ : ∃ w0, ((w.alloc (.cells #[.int .i64 c.kind, .int .u32 (c.ten : Int), .slice c.sec.A c.sec.n c.sec.c, .int .i64 c.quota, .int .i64 c.n, .int .u64 (c.hd : Int), .int .u64 (c.oth : Int), .int .u64 (c.sn : Int), .int .u8 (c.rt : Int), .slice c.oA c.oN c.oC, .slice c.key.A c.key.n c.key.c, .slice c.frm.A c.frm.n c.frm.c, .slice c.upto.A c.upto.n c.upto.c, .bool c.back] 36)).alloc (.cells #[.int .i64 0, .int .u64 0, .int .u64 0, .slice none 0 0, .slice none 0 0, .int .i64 0, .slice none 0 0] 40)) = w0 := ⟨_, rfl⟩
  rw [hw0] at ha hcb hqb ⊢
  clear hw0
  have c0 := (hcb).cell (k := 0) rfl
  have c1 := (hcb).cell (k := 1) rfl
  have c2 := (hcb).cell (k := 2) rfl
  have c3 := (hcb).cell (k := 3) rfl
  have c4 := (hcb).cell (k := 4) rfl
  have c5 := (hcb).cell (k := 5) rfl
  have c6 := (hcb).cell (k := 6) rfl
  have c7 := (hcb).cell (k := 7) rfl
  have c8 := (hcb).cell (k := 8) rfl
  have c9 := (hcb).cell (k := 9) rfl
  have c10 := (hcb).cell (k := 10) rfl
  have c11 := (hcb).cell (k := 11) rfl
  have c12 := (hcb).cell (k := 12) rfl
  have c13 := (hcb).cell (k := 13) rfl
  have HA := Lib.hid ha
  have HQ := Lib.hid hqb
  have HB := Lib.hid hcb
  have M0 := h.stp (Stp.cut ha (fun _ => False)) fun _ h => h
  have HM := Lib.hid M0
  have T0 := ht.stp (Stp.cut ha (fun _ => False)) fun h => h
  have HT := Lib.hid T0
  have HTW := Lib.hid ht
  have HH := Lib.hid (holder_some 1 x cb mo sm nb es M0 hc hf T0)
  rw [hk] at HH
  have CO := Lib.hid hc
  have HFN := Lib.hid hf
  have HF := Lib.hid fun W => fails_any 2 W
  clear h ha hqb hcb hf hc M0 T0 ht hk
  go_wp2_with fail
  refine HH.out.mono ?_
  rintro e w9 ⟨rfl, hb9⟩
  have B9 := Lib.hid hb9
  clear hb9 HH
  have q4 := (HB.out.ab B9.out).cell (k := 4) rfl
  go_wp2_with fail
  refine (HF.out _).mono ?_
  rintro e w1 ⟨rfl, hb⟩
  have B1 : Hid (Below w0.heap.size w0 w1) := Lib.hid (below_tr B9.out hb B9.out.size)
  have Q1 := Lib.hid (HQ.out.ab B1.out)
  have M1 := Lib.hid (HM.out.stp (Stp.of B1.out (fun _ => False) fun _ _ => rfl) fun _ h => h)
  have S1 : Hid (Stp (fun τ => τ.1 = s) w O w1 (cutTg O w.heap.size)) := Lib.hid ((Stp.cut HA.out _).ab B1.out)
  clear hb HQ HM B1
  go_wp2_with (first
    | (with_reducible refine wpList_storeC (o := ⟨none, .store _ (.tmp 4) (.tmp 34), _, _, _, _⟩) ?_ 40 (.tmp 4) (.tmp 34) ?_ (w.heap.size + 1) ?_ (ansE 2) ?_ (cs := ansE 0) (t := 40) Q1.out (szAnsE _) ?_ (ansE_one _) ?_
       · rfl
       · rfl
       · rfl
       · rfl
       · rfl
       intro wz hwz
       have QZ : Hid (CbB wz (w.heap.size + 1) 40 (ansE 2)) := Lib.hid (by rw [hwz]; exact CbB.row Q1.out _)
       have FZ : Hid (Fr w1 wz (fun k => k = (w.heap.size + 1))) := Lib.hid (by rw [hwz]; exact fr_rowX _ _ _)
       clear hwz))
  refine bodyPost_ret (ans_results Tryz.results51 _ _ (w.heap.size + 1) (ansE 2) rfl QZ.out rfl) rfl ?_
  exact DoR.flat 2 0 0 0 ⟨m, bs, M1.out.stp (Stp.box FZ.out (cutTg_at (Nat.le_succ _))) fun i e => by have := M1.out.pos; injection e with e; omega⟩ (S1.out.fresh FZ.out (Nat.le_succ _))
set_option maxRecDepth 100000 in
set_option maxHeartbeats 1000000 in
theorem id_scan_high (x : Nat × TnP) (h : IdM w O s blocks T m bs) (hc : c.Ok) (hf : fnd bs (c.hd / 4294967296) = some x) (hk : checkH x.2.A (c.hd % 4294967296) 1 = 0) (n0 : decide (c.n < 0) = false) (n1 : decide ((100 : Int) < c.n) = true) :
    Calls Tryz.prog 51 #[.pointer (some ⟨s, 0, none⟩), .agg c.cs] w (DoR s blocks w O (errA 2) T) := by
  obtain ⟨cb, mo, sm, nb, es, ht⟩ := h.all x (fnd_mem hf).1
  have ha : Below w.heap.size w ((w.alloc (.cells #[.int .i64 c.kind, .int .u32 (c.ten : Int), .slice c.sec.A c.sec.n c.sec.c, .int .i64 c.quota, .int .i64 c.n, .int .u64 (c.hd : Int), .int .u64 (c.oth : Int), .int .u64 (c.sn : Int), .int .u8 (c.rt : Int), .slice c.oA c.oN c.oC, .slice c.key.A c.key.n c.key.c, .slice c.frm.A c.frm.n c.frm.c, .slice c.upto.A c.upto.n c.upto.c, .bool c.back] 36)).alloc (.cells #[.int .i64 0, .int .u64 0, .int .u64 0, .slice none 0 0, .slice none 0 0, .int .i64 0, .slice none 0 0] 40)) := ((Below.refl _ _).alloc (Nat.le_refl _) _).alloc (by simp) _
  have hcb : CbB ((w.alloc (.cells #[.int .i64 c.kind, .int .u32 (c.ten : Int), .slice c.sec.A c.sec.n c.sec.c, .int .i64 c.quota, .int .i64 c.n, .int .u64 (c.hd : Int), .int .u64 (c.oth : Int), .int .u64 (c.sn : Int), .int .u8 (c.rt : Int), .slice c.oA c.oN c.oC, .slice c.key.A c.key.n c.key.c, .slice c.frm.A c.frm.n c.frm.c, .slice c.upto.A c.upto.n c.upto.c, .bool c.back] 36)).alloc (.cells #[.int .i64 0, .int .u64 0, .int .u64 0, .slice none 0 0, .slice none 0 0, .int .i64 0, .slice none 0 0] 40)) w.heap.size 36 c.cs := (CbB.new w _ _).ab ((Below.refl _ _).alloc (Nat.le_refl _) _)
  have hqb : CbB ((w.alloc (.cells #[.int .i64 c.kind, .int .u32 (c.ten : Int), .slice c.sec.A c.sec.n c.sec.c, .int .i64 c.quota, .int .i64 c.n, .int .u64 (c.hd : Int), .int .u64 (c.oth : Int), .int .u64 (c.sn : Int), .int .u8 (c.rt : Int), .slice c.oA c.oN c.oC, .slice c.key.A c.key.n c.key.c, .slice c.frm.A c.frm.n c.frm.c, .slice c.upto.A c.upto.n c.upto.c, .bool c.back] 36)).alloc (.cells #[.int .i64 0, .int .u64 0, .int .u64 0, .slice none 0 0, .slice none 0 0, .int .i64 0, .slice none 0 0] 40)) (w.heap.size + 1) 40 (ansE 0) := CbB.newI (by simp)
  unfold CallP.cs at hcb ⊢
  go_enter Tryz.func51, Tryz.ntmps51
  go_upto_region 1 with (fail)
  obtain ⟨w0, hw0⟩ : ∃ w0, ((w.alloc (.cells #[.int .i64 c.kind, .int .u32 (c.ten : Int), .slice c.sec.A c.sec.n c.sec.c, .int .i64 c.quota, .int .i64 c.n, .int .u64 (c.hd : Int), .int .u64 (c.oth : Int), .int .u64 (c.sn : Int), .int .u8 (c.rt : Int), .slice c.oA c.oN c.oC, .slice c.key.A c.key.n c.key.c, .slice c.frm.A c.frm.n c.frm.c, .slice c.upto.A c.upto.n c.upto.c, .bool c.back] 36)).alloc (.cells #[.int .i64 0, .int .u64 0, .int .u64 0, .slice none 0 0, .slice none 0 0, .int .i64 0, .slice none 0 0] 40)) = w0 := ⟨_, rfl⟩
  rw [hw0] at ha hcb hqb ⊢
  clear hw0
  have c0 := (hcb).cell (k := 0) rfl
  have c1 := (hcb).cell (k := 1) rfl
  have c2 := (hcb).cell (k := 2) rfl
  have c3 := (hcb).cell (k := 3) rfl
  have c4 := (hcb).cell (k := 4) rfl
  have c5 := (hcb).cell (k := 5) rfl
  have c6 := (hcb).cell (k := 6) rfl
  have c7 := (hcb).cell (k := 7) rfl
  have c8 := (hcb).cell (k := 8) rfl
  have c9 := (hcb).cell (k := 9) rfl
  have c10 := (hcb).cell (k := 10) rfl
  have c11 := (hcb).cell (k := 11) rfl
  have c12 := (hcb).cell (k := 12) rfl
  have c13 := (hcb).cell (k := 13) rfl
  have HA := Lib.hid ha
  have HQ := Lib.hid hqb
  have HB := Lib.hid hcb
  have M0 := h.stp (Stp.cut ha (fun _ => False)) fun _ h => h
  have HM := Lib.hid M0
  have T0 := ht.stp (Stp.cut ha (fun _ => False)) fun h => h
  have HT := Lib.hid T0
  have HTW := Lib.hid ht
  have HH := Lib.hid (holder_some 1 x cb mo sm nb es M0 hc hf T0)
  rw [hk] at HH
  have CO := Lib.hid hc
  have HFN := Lib.hid hf
  have HF := Lib.hid fun W => fails_any 2 W
  clear h ha hqb hcb hf hc M0 T0 ht hk
  go_wp2_with fail
  refine HH.out.mono ?_
  rintro e w9 ⟨rfl, hb9⟩
  have B9 := Lib.hid hb9
  clear hb9 HH
  have q4 := (HB.out.ab B9.out).cell (k := 4) rfl
  go_wp2_with fail
  refine (HF.out _).mono ?_
  rintro e w1 ⟨rfl, hb⟩
  have B1 : Hid (Below w0.heap.size w0 w1) := Lib.hid (below_tr B9.out hb B9.out.size)
  have Q1 := Lib.hid (HQ.out.ab B1.out)
  have M1 := Lib.hid (HM.out.stp (Stp.of B1.out (fun _ => False) fun _ _ => rfl) fun _ h => h)
  have S1 : Hid (Stp (fun τ => τ.1 = s) w O w1 (cutTg O w.heap.size)) := Lib.hid ((Stp.cut HA.out _).ab B1.out)
  clear hb HQ HM B1
  go_wp2_with (first
    | (with_reducible refine wpList_storeC (o := ⟨none, .store _ (.tmp 4) (.tmp 34), _, _, _, _⟩) ?_ 40 (.tmp 4) (.tmp 34) ?_ (w.heap.size + 1) ?_ (ansE 2) ?_ (cs := ansE 0) (t := 40) Q1.out (szAnsE _) ?_ (ansE_one _) ?_
       · rfl
       · rfl
       · rfl
       · rfl
       · rfl
       intro wz hwz
       have QZ : Hid (CbB wz (w.heap.size + 1) 40 (ansE 2)) := Lib.hid (by rw [hwz]; exact CbB.row Q1.out _)
       have FZ : Hid (Fr w1 wz (fun k => k = (w.heap.size + 1))) := Lib.hid (by rw [hwz]; exact fr_rowX _ _ _)
       clear hwz))
  refine bodyPost_ret (ans_results Tryz.results51 _ _ (w.heap.size + 1) (ansE 2) rfl QZ.out rfl) rfl ?_
  exact DoR.flat 2 0 0 0 ⟨m, bs, M1.out.stp (Stp.box FZ.out (cutTg_at (Nat.le_succ _))) fun i e => by have := M1.out.pos; injection e with e; omega⟩ (S1.out.fresh FZ.out (Nat.le_succ _))
set_option maxRecDepth 100000 in
set_option maxHeartbeats 1000000 in
theorem id_scan_snap (x : Nat × TnP) (h : IdM w O s blocks T m bs) (hc : c.Ok) (hf : fnd bs (c.hd / 4294967296) = some x) (hk : checkH x.2.A (c.hd % 4294967296) 1 = 0) (n0 : decide (c.n < 0) = false) (n1 : decide ((100 : Int) < c.n) = false) (hs : seenP x.2 c.sn = none) :
    Calls Tryz.prog 51 #[.pointer (some ⟨s, 0, none⟩), .agg c.cs] w (DoR s blocks w O (errA 262) T) := by
  obtain ⟨cb, mo, sm, nb, es, ht⟩ := h.all x (fnd_mem hf).1
  have ha : Below w.heap.size w ((w.alloc (.cells #[.int .i64 c.kind, .int .u32 (c.ten : Int), .slice c.sec.A c.sec.n c.sec.c, .int .i64 c.quota, .int .i64 c.n, .int .u64 (c.hd : Int), .int .u64 (c.oth : Int), .int .u64 (c.sn : Int), .int .u8 (c.rt : Int), .slice c.oA c.oN c.oC, .slice c.key.A c.key.n c.key.c, .slice c.frm.A c.frm.n c.frm.c, .slice c.upto.A c.upto.n c.upto.c, .bool c.back] 36)).alloc (.cells #[.int .i64 0, .int .u64 0, .int .u64 0, .slice none 0 0, .slice none 0 0, .int .i64 0, .slice none 0 0] 40)) := ((Below.refl _ _).alloc (Nat.le_refl _) _).alloc (by simp) _
  have hcb : CbB ((w.alloc (.cells #[.int .i64 c.kind, .int .u32 (c.ten : Int), .slice c.sec.A c.sec.n c.sec.c, .int .i64 c.quota, .int .i64 c.n, .int .u64 (c.hd : Int), .int .u64 (c.oth : Int), .int .u64 (c.sn : Int), .int .u8 (c.rt : Int), .slice c.oA c.oN c.oC, .slice c.key.A c.key.n c.key.c, .slice c.frm.A c.frm.n c.frm.c, .slice c.upto.A c.upto.n c.upto.c, .bool c.back] 36)).alloc (.cells #[.int .i64 0, .int .u64 0, .int .u64 0, .slice none 0 0, .slice none 0 0, .int .i64 0, .slice none 0 0] 40)) w.heap.size 36 c.cs := (CbB.new w _ _).ab ((Below.refl _ _).alloc (Nat.le_refl _) _)
  have hqb : CbB ((w.alloc (.cells #[.int .i64 c.kind, .int .u32 (c.ten : Int), .slice c.sec.A c.sec.n c.sec.c, .int .i64 c.quota, .int .i64 c.n, .int .u64 (c.hd : Int), .int .u64 (c.oth : Int), .int .u64 (c.sn : Int), .int .u8 (c.rt : Int), .slice c.oA c.oN c.oC, .slice c.key.A c.key.n c.key.c, .slice c.frm.A c.frm.n c.frm.c, .slice c.upto.A c.upto.n c.upto.c, .bool c.back] 36)).alloc (.cells #[.int .i64 0, .int .u64 0, .int .u64 0, .slice none 0 0, .slice none 0 0, .int .i64 0, .slice none 0 0] 40)) (w.heap.size + 1) 40 (ansE 0) := CbB.newI (by simp)
  unfold CallP.cs at hcb ⊢
  go_enter Tryz.func51, Tryz.ntmps51
  go_upto_region 1 with (fail)
  obtain ⟨w0, hw0⟩ : ∃ w0, ((w.alloc (.cells #[.int .i64 c.kind, .int .u32 (c.ten : Int), .slice c.sec.A c.sec.n c.sec.c, .int .i64 c.quota, .int .i64 c.n, .int .u64 (c.hd : Int), .int .u64 (c.oth : Int), .int .u64 (c.sn : Int), .int .u8 (c.rt : Int), .slice c.oA c.oN c.oC, .slice c.key.A c.key.n c.key.c, .slice c.frm.A c.frm.n c.frm.c, .slice c.upto.A c.upto.n c.upto.c, .bool c.back] 36)).alloc (.cells #[.int .i64 0, .int .u64 0, .int .u64 0, .slice none 0 0, .slice none 0 0, .int .i64 0, .slice none 0 0] 40)) = w0 := ⟨_, rfl⟩
  rw [hw0] at ha hcb hqb ⊢
  clear hw0
  have c0 := (hcb).cell (k := 0) rfl
  have c1 := (hcb).cell (k := 1) rfl
  have c2 := (hcb).cell (k := 2) rfl
  have c3 := (hcb).cell (k := 3) rfl
  have c4 := (hcb).cell (k := 4) rfl
  have c5 := (hcb).cell (k := 5) rfl
  have c6 := (hcb).cell (k := 6) rfl
  have c7 := (hcb).cell (k := 7) rfl
  have c8 := (hcb).cell (k := 8) rfl
  have c9 := (hcb).cell (k := 9) rfl
  have c10 := (hcb).cell (k := 10) rfl
  have c11 := (hcb).cell (k := 11) rfl
  have c12 := (hcb).cell (k := 12) rfl
  have c13 := (hcb).cell (k := 13) rfl
  have HA := Lib.hid ha
  have HQ := Lib.hid hqb
  have HB := Lib.hid hcb
  have M0 := h.stp (Stp.cut ha (fun _ => False)) fun _ h => h
  have HM := Lib.hid M0
  have T0 := ht.stp (Stp.cut ha (fun _ => False)) fun h => h
  have HT := Lib.hid T0
  have HTW := Lib.hid ht
  have HH := Lib.hid (holder_some 1 x cb mo sm nb es M0 hc hf T0)
  rw [hk] at HH
  have CO := Lib.hid hc
  have HFN := Lib.hid hf
  have HF := Lib.hid fun W => fails_any 262 W
  have HSN := Lib.hid hs
  clear h ha hqb hcb hf hc M0 T0 ht hk hs
  go_wp2_with fail
  refine HH.out.mono ?_
  rintro e w9 ⟨rfl, hb9⟩
  have B9 := Lib.hid hb9
  clear hb9 HH
  have q0 := (HB.out.ab B9.out).cell (k := 0) rfl
  have q1 := (HB.out.ab B9.out).cell (k := 1) rfl
  have q2 := (HB.out.ab B9.out).cell (k := 2) rfl
  have q3 := (HB.out.ab B9.out).cell (k := 3) rfl
  have q4 := (HB.out.ab B9.out).cell (k := 4) rfl
  have q5 := (HB.out.ab B9.out).cell (k := 5) rfl
  have q6 := (HB.out.ab B9.out).cell (k := 6) rfl
  have q7 := (HB.out.ab B9.out).cell (k := 7) rfl
  have q8 := (HB.out.ab B9.out).cell (k := 8) rfl
  have q9 := (HB.out.ab B9.out).cell (k := 9) rfl
  have q10 := (HB.out.ab B9.out).cell (k := 10) rfl
  have q11 := (HB.out.ab B9.out).cell (k := 11) rfl
  have q12 := (HB.out.ab B9.out).cell (k := 12) rfl
  have q13 := (HB.out.ab B9.out).cell (k := 13) rfl
  have HS := Lib.hid (seen_any (c := c) CO.out (HT.out.stp (Stp.of B9.out (fun _ => False) fun _ _ => rfl) fun h => h))
  go_wp2_with fail
  refine HS.out.mono ?_
  rintro e w8 ⟨hr, hb⟩
  rcases hr with ⟨_, rfl⟩ | ⟨S, k, h1, _⟩
  · have B8 := Lib.hid (below_tr B9.out hb B9.out.size)
    clear hb HS
    go_wp2_with fail
    refine (HF.out _).mono ?_
    rintro e w1 ⟨rfl, hb⟩
    have B1 : Hid (Below w0.heap.size w0 w1) := Lib.hid (below_tr B8.out hb B8.out.size)
    have Q1 := Lib.hid (HQ.out.ab B1.out)
    have M1 := Lib.hid (HM.out.stp (Stp.of B1.out (fun _ => False) fun _ _ => rfl) fun _ h => h)
    have S1 : Hid (Stp (fun τ => τ.1 = s) w O w1 (cutTg O w.heap.size)) := Lib.hid ((Stp.cut HA.out _).ab B1.out)
    clear hb HQ HM B1
    go_wp2_with (first
      | (with_reducible refine wpList_storeC (o := ⟨none, .store _ (.tmp 4) (.tmp 44), _, _, _, _⟩) ?_ 40 (.tmp 4) (.tmp 44) ?_ (w.heap.size + 1) ?_ (ansE 262) ?_ (cs := ansE 0) (t := 40) Q1.out (szAnsE _) ?_ (ansE_one _) ?_
         · rfl
         · rfl
         · rfl
         · rfl
         · rfl
         intro wz hwz
         have QZ : Hid (CbB wz (w.heap.size + 1) 40 (ansE 262)) := Lib.hid (by rw [hwz]; exact CbB.row Q1.out _)
         have FZ : Hid (Fr w1 wz (fun k => k = (w.heap.size + 1))) := Lib.hid (by rw [hwz]; exact fr_rowX _ _ _)
         clear hwz))
    refine bodyPost_ret (ans_results Tryz.results51 _ _ (w.heap.size + 1) (ansE 262) rfl QZ.out rfl) rfl ?_
    exact DoR.flat 262 0 0 0 ⟨m, bs, M1.out.stp (Stp.box FZ.out (cutTg_at (Nat.le_succ _))) fun i e => by have := M1.out.pos; injection e with e; omega⟩ (S1.out.fresh FZ.out (Nat.le_succ _))
  · rw [HSN.out] at h1; cases h1
set_option maxRecDepth 100000 in
set_option maxHeartbeats 1000000 in
theorem id_scan_ok (x : Nat × TnP) (h : IdM w O s blocks T m bs) (hc : c.Ok) (hf : fnd bs (c.hd / 4294967296) = some x) (hk : checkH x.2.A (c.hd % 4294967296) 1 = 0) (n0 : decide (c.n < 0) = false) (n1 : decide ((100 : Int) < c.n) = false) (S : Bk2) (hs : seenP x.2 c.sn = some S) (hl : S.length ≤ 100000) (hfr : IsB w c.frm.A c.frm.n c.frm.c c.frm.l) (hup : IsB w c.upto.A c.upto.n c.upto.c c.upto.l) :
    Calls Tryz.prog 51 #[.pointer (some ⟨s, 0, none⟩), .agg c.cs] w (DoR s blocks w O (prsA (prsK S (scanK c S))) T) := by
  obtain ⟨cb, mo, sm, nb, es, ht⟩ := h.all x (fnd_mem hf).1
  have ha : Below w.heap.size w ((w.alloc (.cells #[.int .i64 c.kind, .int .u32 (c.ten : Int), .slice c.sec.A c.sec.n c.sec.c, .int .i64 c.quota, .int .i64 c.n, .int .u64 (c.hd : Int), .int .u64 (c.oth : Int), .int .u64 (c.sn : Int), .int .u8 (c.rt : Int), .slice c.oA c.oN c.oC, .slice c.key.A c.key.n c.key.c, .slice c.frm.A c.frm.n c.frm.c, .slice c.upto.A c.upto.n c.upto.c, .bool c.back] 36)).alloc (.cells #[.int .i64 0, .int .u64 0, .int .u64 0, .slice none 0 0, .slice none 0 0, .int .i64 0, .slice none 0 0] 40)) := ((Below.refl _ _).alloc (Nat.le_refl _) _).alloc (by simp) _
  have hcb : CbB ((w.alloc (.cells #[.int .i64 c.kind, .int .u32 (c.ten : Int), .slice c.sec.A c.sec.n c.sec.c, .int .i64 c.quota, .int .i64 c.n, .int .u64 (c.hd : Int), .int .u64 (c.oth : Int), .int .u64 (c.sn : Int), .int .u8 (c.rt : Int), .slice c.oA c.oN c.oC, .slice c.key.A c.key.n c.key.c, .slice c.frm.A c.frm.n c.frm.c, .slice c.upto.A c.upto.n c.upto.c, .bool c.back] 36)).alloc (.cells #[.int .i64 0, .int .u64 0, .int .u64 0, .slice none 0 0, .slice none 0 0, .int .i64 0, .slice none 0 0] 40)) w.heap.size 36 c.cs := (CbB.new w _ _).ab ((Below.refl _ _).alloc (Nat.le_refl _) _)
  have hqb : CbB ((w.alloc (.cells #[.int .i64 c.kind, .int .u32 (c.ten : Int), .slice c.sec.A c.sec.n c.sec.c, .int .i64 c.quota, .int .i64 c.n, .int .u64 (c.hd : Int), .int .u64 (c.oth : Int), .int .u64 (c.sn : Int), .int .u8 (c.rt : Int), .slice c.oA c.oN c.oC, .slice c.key.A c.key.n c.key.c, .slice c.frm.A c.frm.n c.frm.c, .slice c.upto.A c.upto.n c.upto.c, .bool c.back] 36)).alloc (.cells #[.int .i64 0, .int .u64 0, .int .u64 0, .slice none 0 0, .slice none 0 0, .int .i64 0, .slice none 0 0] 40)) (w.heap.size + 1) 40 (ansE 0) := CbB.newI (by simp)
  unfold CallP.cs at hcb ⊢
  go_enter Tryz.func51, Tryz.ntmps51
  go_upto_region 1 with (fail)
  obtain ⟨w0, hw0⟩ : ∃ w0, ((w.alloc (.cells #[.int .i64 c.kind, .int .u32 (c.ten : Int), .slice c.sec.A c.sec.n c.sec.c, .int .i64 c.quota, .int .i64 c.n, .int .u64 (c.hd : Int), .int .u64 (c.oth : Int), .int .u64 (c.sn : Int), .int .u8 (c.rt : Int), .slice c.oA c.oN c.oC, .slice c.key.A c.key.n c.key.c, .slice c.frm.A c.frm.n c.frm.c, .slice c.upto.A c.upto.n c.upto.c, .bool c.back] 36)).alloc (.cells #[.int .i64 0, .int .u64 0, .int .u64 0, .slice none 0 0, .slice none 0 0, .int .i64 0, .slice none 0 0] 40)) = w0 := ⟨_, rfl⟩
  rw [hw0] at ha hcb hqb ⊢
  clear hw0
  have c0 := (hcb).cell (k := 0) rfl
  have c1 := (hcb).cell (k := 1) rfl
  have c2 := (hcb).cell (k := 2) rfl
  have c3 := (hcb).cell (k := 3) rfl
  have c4 := (hcb).cell (k := 4) rfl
  have c5 := (hcb).cell (k := 5) rfl
  have c6 := (hcb).cell (k := 6) rfl
  have c7 := (hcb).cell (k := 7) rfl
  have c8 := (hcb).cell (k := 8) rfl
  have c9 := (hcb).cell (k := 9) rfl
  have c10 := (hcb).cell (k := 10) rfl
  have c11 := (hcb).cell (k := 11) rfl
  have c12 := (hcb).cell (k := 12) rfl
  have c13 := (hcb).cell (k := 13) rfl
  have HA := Lib.hid ha
  have HQ := Lib.hid hqb
  have HB := Lib.hid hcb
  have M0 := h.stp (Stp.cut ha (fun _ => False)) fun _ h => h
  have HM := Lib.hid M0
  have T0 := ht.stp (Stp.cut ha (fun _ => False)) fun h => h
  have HT := Lib.hid T0
  have HTW := Lib.hid ht
  have HH := Lib.hid (holder_some 1 x cb mo sm nb es M0 hc hf T0)
  rw [hk] at HH
  have CO := Lib.hid hc
  have HFN := Lib.hid hf
  have HSN := Lib.hid hs
  have HSL := Lib.hid hl
  have FR0 := Lib.hid (hfr.ab ha)
  have UP0 := Lib.hid (hup.ab ha)
  have FRL : Hid (∀ x, c.frm.A = some x → 0 < c.frm.n → x.block < w.heap.size) := Lib.hid fun x e hn => by
    obtain ⟨y, hy, h2, _⟩ := hfr.1.at hn
    rw [e] at hy; injection hy with hy; rw [hy]; exact h2
  have UPL : Hid (∀ x, c.upto.A = some x → 0 < c.upto.n → x.block < w.heap.size) := Lib.hid fun x e hn => by
    obtain ⟨y, hy, h2, _⟩ := hup.1.at hn
    rw [e] at hy; injection hy with hy; rw [hy]; exact h2
  have CN : Hid (0 ≤ c.n ∧ c.n ≤ 100) := Lib.hid (by simp at n0 n1; omega)
  clear h ha hqb hcb hf hc M0 T0 ht hk hs hl hfr hup
  go_wp2_with fail
  refine HH.out.mono ?_
  rintro e w9 ⟨rfl, hb9⟩
  have B9 := Lib.hid hb9
  clear hb9 HH
  have q0 := (HB.out.ab B9.out).cell (k := 0) rfl
  have q1 := (HB.out.ab B9.out).cell (k := 1) rfl
  have q2 := (HB.out.ab B9.out).cell (k := 2) rfl
  have q3 := (HB.out.ab B9.out).cell (k := 3) rfl
  have q4 := (HB.out.ab B9.out).cell (k := 4) rfl
  have q5 := (HB.out.ab B9.out).cell (k := 5) rfl
  have q6 := (HB.out.ab B9.out).cell (k := 6) rfl
  have q7 := (HB.out.ab B9.out).cell (k := 7) rfl
  have q8 := (HB.out.ab B9.out).cell (k := 8) rfl
  have q9 := (HB.out.ab B9.out).cell (k := 9) rfl
  have q10 := (HB.out.ab B9.out).cell (k := 10) rfl
  have q11 := (HB.out.ab B9.out).cell (k := 11) rfl
  have q12 := (HB.out.ab B9.out).cell (k := 12) rfl
  have q13 := (HB.out.ab B9.out).cell (k := 13) rfl
  have HS := Lib.hid (seen_any (c := c) CO.out (HT.out.stp (Stp.of B9.out (fun _ => False) fun _ _ => rfl) fun h => h))
  go_wp2_with fail
  refine HS.out.mono ?_
  rintro e w8 ⟨hr, hb⟩
  rcases hr with ⟨hz, _⟩ | ⟨S', kb, h1, hbk, hko, rfl⟩
  · rw [HSN.out] at hz; cases hz
  rw [HSN.out] at h1
  injection h1 with h1
  subst h1
  have B8 := Lib.hid (below_tr B9.out hb B9.out.size)
  have BK := Lib.hid (hbk.stp hko (Stp.of (O' := cutTg O w.heap.size) hb (fun _ => False) fun _ _ => rfl))
  have KO8 : Hid (cutTg O w.heap.size kb = none) := Lib.hid hko
  clear hb HS hbk hko
  have HK := Lib.hid (bkeys_any kb S w8 (cutTg O w.heap.size) BK.out HSL.out)
  go_wp2_with fail
  refine HK.out.mono ?_
  rintro e w7 ⟨v7, rfl, hs7, hb7⟩
  have st7 := hs7.st
  have B7 := Lib.hid (below_tr B8.out hb7 B8.out.size)
  have N8 : Hid (w.heap.size < w8.heap.size ∧ w0.heap.size ≤ w8.heap.size) := Lib.hid ⟨by have := HQ.out.lt; have := B8.out.size; omega, B8.out.size⟩
  have HDL := Lib.hid (delS_any c w.heap.size w8.heap.size v7 (kysK S) w7 st7 N8.out.1 hb7.size (HB.out.ab B7.out) (FR0.out.ab B7.out) (UP0.out.ab B7.out) (fun x e hn => by have := FRL.out x e hn; have := N8.out.1; omega) (fun x e hn => by have := UPL.out x e hn; have := N8.out.1; omega))
  obtain ⟨A7, n7, c7, hv7⟩ := row_sl hs7
  subst hv7
  have H78 := Lib.hid hb7
  clear hs7 hb7 st7 HK q0 q1 q2 q3 q4 q5 q6 q7 q8 q9 q10 q11 q12 q13
  go_wp2_with fail
  refine HDL.out.mono ?_
  rintro e w6 ⟨v6, rfl, st6, hb6⟩
  have B6 := Lib.hid (B7.out.trans (hb6.mono N8.out.2))
  have W86 : Hid (Below w8.heap.size w8 w6) := Lib.hid (H78.out.trans hb6)
  have ST6 := Lib.hid st6
  obtain ⟨A6, c6, hv6, _⟩ := id st6
  subst hv6
  have X13 : w6.cell? ⟨w.heap.size, 13, none⟩ = some (.bool c.back) := (HB.out.ab B6.out).cell (k := 13) rfl
  clear st6 hb6 HDL H78
  obtain ⟨bk, hbk⟩ : ∃ b, c.back = b := ⟨_, rfl⟩
  rw [hbk] at X13
  obtain ⟨ks, hks⟩ : ∃ ks, ((kysK S).filter fun k => !delP c.frm.l c.upto.l k) = ks := ⟨_, rfl⟩
  have KM : Hid (∀ k ∈ ks, ∃ u, getK k S = some u) := Lib.hid fun k hk => kysK_mem (List.mem_filter.1 (by rw [hks]; exact hk)).1
  have SK : Hid (scanK c S = (bif bk then ks.reverse else ks).take c.n.toNat) := Lib.hid (by unfold scanK; rw [hks, hbk])
  rw [hks] at ST6 ⊢
  clear hbk hks
  cases bk with
  | true =>
    have HRV := Lib.hid (revS_any w8.heap.size _ ks w6 ST6.out)
    go_wp2_with fail
    refine HRV.out.mono ?_
    rintro e w5 ⟨rfl, st5, hb5⟩
    have B5 := Lib.hid (B6.out.trans (hb5.mono N8.out.2))
    have W85 : Hid (Below w8.heap.size w8 w5) := Lib.hid (W86.out.trans hb5)
    have ST5 := Lib.hid st5
    clear st5 hb5 HRV X13
    obtain ⟨A5, c5, he5, hc1, hc2, hc3⟩ := ST5.out
    simp only [Value.slice.injEq] at he5
    obtain ⟨rfl, _, rfl⟩ := he5
    obtain ⟨ln, hln⟩ : ∃ n, ks.length = n := ⟨_, rfl⟩
    have LN : Hid ((ks.reverse).length = ln) := Lib.hid (by simp [hln])
    rw [LN.out] at hc1
    rw [hln]
    obtain ⟨cn, hcn⟩ : ∃ n : Nat, c.n = (n : Int) := ⟨c.n.toNat, (Int.toNat_of_nonneg CN.out.1).symm⟩
    have CNE : Hid (c.n.toNat = cn) := Lib.hid (by rw [hcn]; rfl)
    have CNL : Hid (cn ≤ 100) := Lib.hid (by have := CN.out; omega)
    have X4 : w5.cell? ⟨w.heap.size, 4, none⟩ = some (.int .i64 (cn : Int)) := by rw [← hcn]; exact (HB.out.ab B5.out).cell (k := 4) rfl
    obtain ⟨mi, hm⟩ : ∃ mi : Nat, mi = min ln cn := ⟨_, rfl⟩
    have hsl := sl_uptoS w5 A6 ln c6 mi (by omega)
    have BK5 := Lib.hid (BK.out.stp KO8.out (Stp.of (O' := cutTg O w.heap.size) W85.out (fun _ => False) fun _ _ => rfl))
    have KY : Hid (∀ k ∈ ks.reverse, kyOk k ∧ ∃ u, getK k S = some u) := Lib.hid fun k hk => by
      obtain ⟨u, hu⟩ := KM.out k (List.mem_reverse.1 hk)
      exact ⟨BK.out.ok _ (getK_mem hu), u, hu⟩
    have HC1 := Lib.hid hc1
    have HC3 := Lib.hid hc3
    have HMI := Lib.hid hm
    have MM : Hid (mi ≤ ln ∧ mi ≤ 100) := Lib.hid (by have := CNL.out; omega)
    have m0 : (mi : Int) ≤ 100 := by have := MM.out; omega
    have W5N : Hid (w.heap.size + 1 < w5.heap.size ∧ w8.heap.size ≤ w5.heap.size) := Lib.hid ⟨by have := HQ.out.lt; have := B5.out.size; omega, W85.out.size⟩
    clear hc1 hc2 hc3 hln hcn hm
    go_wp2_with (first
      | (refine wpList_min2 rfl (.tmp 55) (.tmp 57) rfl ln cn mi rfl rfl HMI.out ?_))
    clear hsl X4
    go_loopw [10, 61] (fun z10 z61 wr => ∃ i : Nat, i ≤ mi ∧ z61 = .int .i64 (i : Int) ∧ PrN wr w5.heap.size z10 (prsK S ((ks.reverse).take i)) ∧ Below w5.heap.size w5 wr) (fun _ z _ => mi - (intOf z).toNat)
    case atStart => exact ⟨0, Nat.zero_le _, rfl, PrN.nil _ _, Below.refl _ _⟩
    case round =>
      obtain ⟨i, hi, rfl, hp, hb⟩ := hrel
      have PR := Lib.hid hp
      have BR := Lib.hid hb
      by_cases hlt : i < mi
      · have hil : i < (ks.reverse).length := by rw [LN.out]; have := MM.out; omega
        obtain ⟨k, hk⟩ : ∃ k, (ks.reverse)[i]? = some k := ⟨_, List.getElem?_eq_getElem hil⟩
        obtain ⟨kok, u, hu⟩ := KY.out k (List.mem_of_getElem? hk)
        rcases HC3.out with ⟨_, h0⟩ | ⟨g, rfl, hg1, hg2, hH⟩
        · have := HC1.out; rw [LN.out] at hil; omega
        have hc : wr.cell? ⟨g, i, none⟩ = some (.string ⟨k.toArray⟩) := by
          have h1 := (hH i (by simpa using hil)).1
          rw [getElem!_pos _ i (by simpa using hil)] at h1
          have h2 : (ks.reverse)[i]'hil = k := by rw [List.getElem?_eq_getElem hil] at hk; injection hk
          rw [Nat.zero_add] at h1
          refine (World.cell?_of_block (hb.block g hg2)).trans (h1.trans ?_)
          simp [encStr, h2]
        have KL := Lib.hid hlt
        have HKI := Lib.hid hk
        have HU := Lib.hid hu
        have KOK := Lib.hid kok
        have hlti : (i : Int) < (mi : Int) := by omega
        have hi0 : (0 : Int) ≤ (i : Int) := by omega
        clear hi hp hb hlt hil hk kok hu hg1 hg2 hH
        go_wp2_with fail
        obtain ⟨cap, w1, hcv, b1, ky1⟩ := str_bytesK wr k KOK.out
        rw [hcv]
        have BR1 := Lib.hid (below_tr BR.out b1 BR.out.size)
        have PR1 := Lib.hid (PR.out.ab b1)
        have KY1 := Lib.hid ky1
        have BKR := BK5.out.stp KO8.out (Stp.of (O' := cutTg O w.heap.size) BR1.out (fun _ => False) fun _ _ => rfl)
        rcases BKR.look k KOK.out with ⟨hz, _⟩ | ⟨vv, u', hu', him, hlk⟩
        · rw [HU.out] at hz; cases hz
        rw [HU.out] at hu'
        injection hu' with hu'
        subst hu'
        obtain ⟨vA, vn, vc, rfl, hvn, hvi, _⟩ := him
        have hlk := hlk w1 rfl 78 false Tryz.underlying78
        simp only [Bool.false_eq_true, if_false, encStr] at hlk
        have HCL := Lib.hid (bclone_any vA vn vc u w1 hvi hvn)
        have NR : Hid (w5.heap.size ≤ wr.heap.size) := Lib.hid BR.out.size
        clear hcv b1 ky1 BKR hvi hvn BR PR
        go_wp2_with fail
        refine HCL.out.mono ?_
        rintro e w2 ⟨v2, rfl, ho2, hb2⟩
        obtain ⟨A2, c2, rfl, _, _⟩ := ho2.shape
        have ha3 : Below w2.heap.size w2 (w2.alloc (.cells #[.slice (some ⟨wr.heap.size, 0, none⟩) k.length cap, .slice A2 u.length c2] 95)) := (Below.refl _ _).alloc (Nat.le_refl _) _
        have N1 : w5.heap.size ≤ w1.heap.size := BR1.out.size
        have B3 := Lib.hid (below_tr (below_tr BR1.out hb2 N1) ha3 (Nat.le_trans N1 hb2.size))
        have PR3 := Lib.hid ((PR1.out.ab hb2).ab ha3)
        have KY3 := Lib.hid (((KY1.out.lower NR.out).ab hb2).ab ha3)
        have OW3 := Lib.hid ((ho2.lower N1).fr (Fr.of ha3 (fun _ => False)) fun _ _ h => h)
        have CB3 := Lib.hid (CbB.new w2 95 #[.slice (some ⟨wr.heap.size, 0, none⟩) k.length cap, .slice A2 u.length c2])
        have N3 : Hid (w5.heap.size ≤ (w2.alloc (.cells #[.slice (some ⟨wr.heap.size, 0, none⟩) k.length cap, .slice A2 u.length c2] 95)).heap.size) := Lib.hid B3.out.size
        have PL : Hid ((prsK S ((ks.reverse).take i)).length ≤ 100000) := Lib.hid (by unfold prsK; rw [List.length_map, List.length_take]; have := KL.out; have := MM.out; omega)
        have PE : Hid (prsK S ((ks.reverse).take i) ++ [(k8 (k.map (·.toNat)), u)] = prsK S ((ks.reverse).take (i + 1))) := Lib.hid (by
          rw [List.take_add_one, HKI.out]
          unfold prsK
          rw [List.map_append, k8_back]
          simp [HU.out])
        clear ho2 hb2 ha3 N1 HCL hlk PR1 KY1 BR1
        go_wp2_with (first
          | (refine wpList_appP rfl (.tmp 65) (.tmp 73) rfl PR3.out rfl (G := w2.heap.size) rfl CB3.out KY3.out OW3.out PL.out N3.out ?_
             intro v4 w4 hp4 hb4
             have P4 : Hid (PrN w4 w5.heap.size v4 (prsK S ((ks.reverse).take (i + 1)))) := Lib.hid (by rw [← PE.out]; exact hp4)
             have B4 := Lib.hid (B3.out.trans hb4)
             clear hp4 hb4))
        go_roundw
        case rel => exact ⟨i + 1, KL.out, by go_num, P4.out, B4.out⟩
        case measure => simp [intOf]; have := KL.out; omega
      · obtain rfl : i = mi := by omega
        have PP : Hid (prsK S ((ks.reverse).take i) = prsK S (scanK c S)) := Lib.hid (by
          rw [SK.out, CNE.out]
          have h9 : (ks.reverse).take i = (bif true then ks.reverse else ks).take cn := by
            show (ks.reverse).take i = (ks.reverse).take cn
            rw [HMI.out]
            by_cases h8 : cn ≤ ln
            · rw [Nat.min_eq_right h8]
            · rw [Nat.min_eq_left (by omega), List.take_of_length_le (by rw [LN.out]; exact Nat.le_refl _), List.take_of_length_le (by rw [LN.out]; omega)]
          rw [h9])
        rw [PP.out] at PR
        obtain ⟨vs, p1, p2, p3⟩ := PR.out
        obtain ⟨PA, pn, pc, hpv⟩ := row_sl p1
        subst hpv
        have NL : w.heap.size ≤ w5.heap.size := by have := W5N.out; omega
        have BW : Below w0.heap.size w0 wr := B5.out.trans (hb.mono (Nat.le_trans N8.out.2 W5N.out.2))
        have Q1 := Lib.hid (HQ.out.ab BW)
        have M1 := Lib.hid (HM.out.stp (Stp.of BW (fun _ => False) fun _ _ => rfl) fun _ h => h)
        have S1 : Hid (Stp (fun τ => τ.1 = s) w O wr (cutTg O w.heap.size)) := Lib.hid ((Stp.cut HA.out _).ab BW)
        have P1 := Lib.hid p1
        have P2 := Lib.hid p2
        have P3 := Lib.hid p3
        have NLH := Lib.hid NL
        clear hi hp hb hlt p1 p2 p3 NL BW
        go_wp2_with (first
          | (with_reducible refine wpList_storeC (o := ⟨none, .store _ (.tmp 4) (.tmp 77), _, _, _, _⟩) ?_ 40 (.tmp 4) (.tmp 77) ?_ (w.heap.size + 1) ?_ (#[.int .i64 0, .int .u64 0, .int .u64 0, .slice none 0 0, .slice PA pn pc, .int .i64 0, .slice none 0 0]) ?_ (cs := ansE 0) (t := 40) Q1.out (szAn7 _ _ _ _ _ _ _) ?_ (by simp [Value.oneCell']) ?_
             · rfl
             · rfl
             · rfl
             · rfl
             · rfl
             intro wz hwz
             have QZ : Hid (CbB wz (w.heap.size + 1) 40 (#[.int .i64 0, .int .u64 0, .int .u64 0, .slice none 0 0, .slice PA pn pc, .int .i64 0, .slice none 0 0])) := Lib.hid (by rw [hwz]; exact CbB.row Q1.out _)
             have FZ : Hid (Fr wr wz (fun k => k = (w.heap.size + 1))) := Lib.hid (by rw [hwz]; exact fr_rowX _ _ _)
             clear hwz))
        refine bodyPost_ret (ans_results Tryz.results51 _ _ (w.heap.size + 1) (#[.int .i64 0, .int .u64 0, .int .u64 0, .slice none 0 0, .slice PA pn pc, .int .i64 0, .slice none 0 0]) rfl QZ.out rfl) rfl ?_
        have hbx : w.heap.size + 1 < w5.heap.size := W5N.out.1
        refine ⟨_, cutTg O w.heap.size, rfl, ⟨_, _, _, rfl, OwB.nil _ _, fun g hg => (by cases hg), ⟨vs, row_low (row_frX P1.out FZ.out hbx) NLH.out, fun g hg => cutTg_at (Nat.le_trans NLH.out (own_ge9 P1.out g hg)), P2.out, fun i p q hi hq => ?_⟩, U32.NsB.nil _ _, fun g hg => (by cases hg)⟩, ⟨m, bs, M1.out.stp (Stp.box FZ.out (cutTg_at (Nat.le_succ _))) fun i e => by have := M1.out.pos; injection e with e; omega⟩, S1.out.fresh FZ.out (Nat.le_succ _)⟩
        obtain ⟨⟨k, k1, k2⟩, k3⟩ := P3.out i p q hi hq
        refine ⟨⟨k, (k1.frX FZ.out hbx).lower NLH.out, k2⟩, (k3.frX FZ.out hbx).lower NLH.out, fun g hg => ?_, fun g hg => cutTg_at (Nat.le_trans NLH.out (k3.lt g hg).1)⟩
        obtain ⟨g', n', cap', cs', fr', e', h1', _⟩ := k1
        rw [e'] at hg
        simp only [Value.ownBlock, Option.some.injEq] at hg
        subst hg
        exact cutTg_at (Nat.le_trans NLH.out h1')
  | false =>
    obtain ⟨w5, hw5⟩ : ∃ w5, w6 = w5 := ⟨_, rfl⟩
    rw [hw5] at B6 W86 ST6 X13 ⊢
    have B5 := B6
    have W85 := W86
    have ST5 := ST6
    clear hw5
    obtain ⟨A5, c5, he5, hc1, hc2, hc3⟩ := ST5.out
    simp only [Value.slice.injEq] at he5
    obtain ⟨rfl, _, rfl⟩ := he5
    obtain ⟨ln, hln⟩ : ∃ n, ks.length = n := ⟨_, rfl⟩
    have LN : Hid (ks.length = ln) := Lib.hid (by simp [hln])
    rw [LN.out] at hc1
    rw [hln]
    obtain ⟨cn, hcn⟩ : ∃ n : Nat, c.n = (n : Int) := ⟨c.n.toNat, (Int.toNat_of_nonneg CN.out.1).symm⟩
    have CNE : Hid (c.n.toNat = cn) := Lib.hid (by rw [hcn]; rfl)
    have CNL : Hid (cn ≤ 100) := Lib.hid (by have := CN.out; omega)
    have X4 : w5.cell? ⟨w.heap.size, 4, none⟩ = some (.int .i64 (cn : Int)) := by rw [← hcn]; exact (HB.out.ab B5.out).cell (k := 4) rfl
    obtain ⟨mi, hm⟩ : ∃ mi : Nat, mi = min ln cn := ⟨_, rfl⟩
    have hsl := sl_uptoS w5 A6 ln c6 mi (by omega)
    have BK5 := Lib.hid (BK.out.stp KO8.out (Stp.of (O' := cutTg O w.heap.size) W85.out (fun _ => False) fun _ _ => rfl))
    have KY : Hid (∀ k ∈ ks, kyOk k ∧ ∃ u, getK k S = some u) := Lib.hid fun k hk => by
      obtain ⟨u, hu⟩ := KM.out k (hk)
      exact ⟨BK.out.ok _ (getK_mem hu), u, hu⟩
    have HC1 := Lib.hid hc1
    have HC3 := Lib.hid hc3
    have HMI := Lib.hid hm
    have MM : Hid (mi ≤ ln ∧ mi ≤ 100) := Lib.hid (by have := CNL.out; omega)
    have m0 : (mi : Int) ≤ 100 := by have := MM.out; omega
    have W5N : Hid (w.heap.size + 1 < w5.heap.size ∧ w8.heap.size ≤ w5.heap.size) := Lib.hid ⟨by have := HQ.out.lt; have := B5.out.size; omega, W85.out.size⟩
    clear hc1 hc2 hc3 hln hcn hm
    go_wp2_with (first
      | (refine wpList_min2 rfl (.tmp 55) (.tmp 57) rfl ln cn mi rfl rfl HMI.out ?_))
    clear hsl X4
    go_loopw [10, 61] (fun z10 z61 wr => ∃ i : Nat, i ≤ mi ∧ z61 = .int .i64 (i : Int) ∧ PrN wr w5.heap.size z10 (prsK S (ks.take i)) ∧ Below w5.heap.size w5 wr) (fun _ z _ => mi - (intOf z).toNat)
    case atStart => exact ⟨0, Nat.zero_le _, rfl, PrN.nil _ _, Below.refl _ _⟩
    case round =>
      obtain ⟨i, hi, rfl, hp, hb⟩ := hrel
      have PR := Lib.hid hp
      have BR := Lib.hid hb
      by_cases hlt : i < mi
      · have hil : i < ks.length := by rw [LN.out]; have := MM.out; omega
        obtain ⟨k, hk⟩ : ∃ k, ks[i]? = some k := ⟨_, List.getElem?_eq_getElem hil⟩
        obtain ⟨kok, u, hu⟩ := KY.out k (List.mem_of_getElem? hk)
        rcases HC3.out with ⟨_, h0⟩ | ⟨g, rfl, hg1, hg2, hH⟩
        · have := HC1.out; rw [LN.out] at hil; omega
        have hc : wr.cell? ⟨g, i, none⟩ = some (.string ⟨k.toArray⟩) := by
          have h1 := (hH i (by simpa using hil)).1
          rw [getElem!_pos _ i (by simpa using hil)] at h1
          have h2 : ks[i]'hil = k := by rw [List.getElem?_eq_getElem hil] at hk; injection hk
          rw [Nat.zero_add] at h1
          refine (World.cell?_of_block (hb.block g hg2)).trans (h1.trans ?_)
          simp [encStr, h2]
        have KL := Lib.hid hlt
        have HKI := Lib.hid hk
        have HU := Lib.hid hu
        have KOK := Lib.hid kok
        have hlti : (i : Int) < (mi : Int) := by omega
        have hi0 : (0 : Int) ≤ (i : Int) := by omega
        clear hi hp hb hlt hil hk kok hu hg1 hg2 hH
        go_wp2_with fail
        obtain ⟨cap, w1, hcv, b1, ky1⟩ := str_bytesK wr k KOK.out
        rw [hcv]
        have BR1 := Lib.hid (below_tr BR.out b1 BR.out.size)
        have PR1 := Lib.hid (PR.out.ab b1)
        have KY1 := Lib.hid ky1
        have BKR := BK5.out.stp KO8.out (Stp.of (O' := cutTg O w.heap.size) BR1.out (fun _ => False) fun _ _ => rfl)
        rcases BKR.look k KOK.out with ⟨hz, _⟩ | ⟨vv, u', hu', him, hlk⟩
        · rw [HU.out] at hz; cases hz
        rw [HU.out] at hu'
        injection hu' with hu'
        subst hu'
        obtain ⟨vA, vn, vc, rfl, hvn, hvi, _⟩ := him
        have hlk := hlk w1 rfl 78 false Tryz.underlying78
        simp only [Bool.false_eq_true, if_false, encStr] at hlk
        have HCL := Lib.hid (bclone_any vA vn vc u w1 hvi hvn)
        have NR : Hid (w5.heap.size ≤ wr.heap.size) := Lib.hid BR.out.size
        clear hcv b1 ky1 BKR hvi hvn BR PR
        go_wp2_with fail
        refine HCL.out.mono ?_
        rintro e w2 ⟨v2, rfl, ho2, hb2⟩
        obtain ⟨A2, c2, rfl, _, _⟩ := ho2.shape
        have ha3 : Below w2.heap.size w2 (w2.alloc (.cells #[.slice (some ⟨wr.heap.size, 0, none⟩) k.length cap, .slice A2 u.length c2] 95)) := (Below.refl _ _).alloc (Nat.le_refl _) _
        have N1 : w5.heap.size ≤ w1.heap.size := BR1.out.size
        have B3 := Lib.hid (below_tr (below_tr BR1.out hb2 N1) ha3 (Nat.le_trans N1 hb2.size))
        have PR3 := Lib.hid ((PR1.out.ab hb2).ab ha3)
        have KY3 := Lib.hid (((KY1.out.lower NR.out).ab hb2).ab ha3)
        have OW3 := Lib.hid ((ho2.lower N1).fr (Fr.of ha3 (fun _ => False)) fun _ _ h => h)
        have CB3 := Lib.hid (CbB.new w2 95 #[.slice (some ⟨wr.heap.size, 0, none⟩) k.length cap, .slice A2 u.length c2])
        have N3 : Hid (w5.heap.size ≤ (w2.alloc (.cells #[.slice (some ⟨wr.heap.size, 0, none⟩) k.length cap, .slice A2 u.length c2] 95)).heap.size) := Lib.hid B3.out.size
        have PL : Hid ((prsK S (ks.take i)).length ≤ 100000) := Lib.hid (by unfold prsK; rw [List.length_map, List.length_take]; have := KL.out; have := MM.out; omega)
        have PE : Hid (prsK S (ks.take i) ++ [(k8 (k.map (·.toNat)), u)] = prsK S (ks.take (i + 1))) := Lib.hid (by
          rw [List.take_add_one, HKI.out]
          unfold prsK
          rw [List.map_append, k8_back]
          simp [HU.out])
        clear ho2 hb2 ha3 N1 HCL hlk PR1 KY1 BR1
        go_wp2_with (first
          | (refine wpList_appP rfl (.tmp 65) (.tmp 73) rfl PR3.out rfl (G := w2.heap.size) rfl CB3.out KY3.out OW3.out PL.out N3.out ?_
             intro v4 w4 hp4 hb4
             have P4 : Hid (PrN w4 w5.heap.size v4 (prsK S (ks.take (i + 1)))) := Lib.hid (by rw [← PE.out]; exact hp4)
             have B4 := Lib.hid (B3.out.trans hb4)
             clear hp4 hb4))
        go_roundw
        case rel => exact ⟨i + 1, KL.out, by go_num, P4.out, B4.out⟩
        case measure => simp [intOf]; have := KL.out; omega
      · obtain rfl : i = mi := by omega
        have PP : Hid (prsK S (ks.take i) = prsK S (scanK c S)) := Lib.hid (by
          rw [SK.out, CNE.out]
          have h9 : ks.take i = (bif false then ks.reverse else ks).take cn := by
            show ks.take i = ks.take cn
            rw [HMI.out]
            by_cases h8 : cn ≤ ln
            · rw [Nat.min_eq_right h8]
            · rw [Nat.min_eq_left (by omega), List.take_of_length_le (by rw [LN.out]; exact Nat.le_refl _), List.take_of_length_le (by rw [LN.out]; omega)]
          rw [h9])
        rw [PP.out] at PR
        obtain ⟨vs, p1, p2, p3⟩ := PR.out
        obtain ⟨PA, pn, pc, hpv⟩ := row_sl p1
        subst hpv
        have NL : w.heap.size ≤ w5.heap.size := by have := W5N.out; omega
        have BW : Below w0.heap.size w0 wr := B5.out.trans (hb.mono (Nat.le_trans N8.out.2 W5N.out.2))
        have Q1 := Lib.hid (HQ.out.ab BW)
        have M1 := Lib.hid (HM.out.stp (Stp.of BW (fun _ => False) fun _ _ => rfl) fun _ h => h)
        have S1 : Hid (Stp (fun τ => τ.1 = s) w O wr (cutTg O w.heap.size)) := Lib.hid ((Stp.cut HA.out _).ab BW)
        have P1 := Lib.hid p1
        have P2 := Lib.hid p2
        have P3 := Lib.hid p3
        have NLH := Lib.hid NL
        clear hi hp hb hlt p1 p2 p3 NL BW
        go_wp2_with (first
          | (with_reducible refine wpList_storeC (o := ⟨none, .store _ (.tmp 4) (.tmp 77), _, _, _, _⟩) ?_ 40 (.tmp 4) (.tmp 77) ?_ (w.heap.size + 1) ?_ (#[.int .i64 0, .int .u64 0, .int .u64 0, .slice none 0 0, .slice PA pn pc, .int .i64 0, .slice none 0 0]) ?_ (cs := ansE 0) (t := 40) Q1.out (szAn7 _ _ _ _ _ _ _) ?_ (by simp [Value.oneCell']) ?_
             · rfl
             · rfl
             · rfl
             · rfl
             · rfl
             intro wz hwz
             have QZ : Hid (CbB wz (w.heap.size + 1) 40 (#[.int .i64 0, .int .u64 0, .int .u64 0, .slice none 0 0, .slice PA pn pc, .int .i64 0, .slice none 0 0])) := Lib.hid (by rw [hwz]; exact CbB.row Q1.out _)
             have FZ : Hid (Fr wr wz (fun k => k = (w.heap.size + 1))) := Lib.hid (by rw [hwz]; exact fr_rowX _ _ _)
             clear hwz))
        refine bodyPost_ret (ans_results Tryz.results51 _ _ (w.heap.size + 1) (#[.int .i64 0, .int .u64 0, .int .u64 0, .slice none 0 0, .slice PA pn pc, .int .i64 0, .slice none 0 0]) rfl QZ.out rfl) rfl ?_
        have hbx : w.heap.size + 1 < w5.heap.size := W5N.out.1
        refine ⟨_, cutTg O w.heap.size, rfl, ⟨_, _, _, rfl, OwB.nil _ _, fun g hg => (by cases hg), ⟨vs, row_low (row_frX P1.out FZ.out hbx) NLH.out, fun g hg => cutTg_at (Nat.le_trans NLH.out (own_ge9 P1.out g hg)), P2.out, fun i p q hi hq => ?_⟩, U32.NsB.nil _ _, fun g hg => (by cases hg)⟩, ⟨m, bs, M1.out.stp (Stp.box FZ.out (cutTg_at (Nat.le_succ _))) fun i e => by have := M1.out.pos; injection e with e; omega⟩, S1.out.fresh FZ.out (Nat.le_succ _)⟩
        obtain ⟨⟨k, k1, k2⟩, k3⟩ := P3.out i p q hi hq
        refine ⟨⟨k, (k1.frX FZ.out hbx).lower NLH.out, k2⟩, (k3.frX FZ.out hbx).lower NLH.out, fun g hg => ?_, fun g hg => cutTg_at (Nat.le_trans NLH.out (k3.lt g hg).1)⟩
        obtain ⟨g', n', cap', cs', fr', e', h1', _⟩ := k1
        rw [e'] at hg
        simp only [Value.ownBlock, Option.some.injEq] at hg
        subst hg
        exact cutTg_at (Nat.le_trans NLH.out h1')
end
end Go.Proofs.YtnnjmelibmiimaaGreat
