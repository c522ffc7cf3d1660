/-
  WALK: IdealApart returns true.
-/
import Derived.Test.YtnnjmelibmiimaaGreatBdy
import Derived.Test.YtnnjmelibmiimaaGreatBda
import Derived.JoinedOf
namespace Go.Proofs.YtnnjmelibmiimaaGreat
open Go.RowKit
set_option linter.unusedVariables false
set_option linter.unusedSimpArgs false

def AtX (W : World) (O : Tg) (g : Nat) (t : TypeId) (cs : Array Value) : Prop := CbB W g t cs ∧ O g = some (0, 0)
theorem AtX.stp {P : Nat × Nat → Prop} {w w' : World} {O O' : Tg} {g : Nat} {t : TypeId} {cs : Array Value} (h : AtX w O g t cs) (k : Stp P w O w' O') (hn : ¬ P (0, 0)) : AtX w' O' g t cs := box_stp h.1 h.2 k hn
theorem AtX.new (w : World) (O : Tg) (t : TypeId) (cs : Array Value) : AtX (w.alloc (.cells cs t)) (cutTg O w.heap.size) w.heap.size t cs := ⟨CbB.new w t cs, cutTg_at (Nat.le_refl _)⟩
/-- two stores that the law has made -/
structure Kn2 (bk : Nat) (w0 : World) (s s2 : Nat) (T T2 : List TnP) (W : World) (O : Tg) : Prop where
  ib : IdB W O s bk T
  ib2 : IdB W O s2 bk T2
  bl : Below w0.heap.size w0 W
  no : ∀ k, k < w0.heap.size → O k = none
  ne : s ≠ s2
section
variable {bk : Nat} {w0 W W2 : World} {O O2 : Tg} {s s2 : Nat} {T T2 T' : List TnP}
theorem Kn2.ab (h : Kn2 bk w0 s s2 T T2 W O) (hb : Below W.heap.size W W2) : Kn2 bk w0 s s2 T T2 W2 (cutTg O W.heap.size) := by
  have st : Stp (fun _ => False) W O W2 (cutTg O W.heap.size) := Stp.cut hb _
  refine ⟨h.ib.stp st fun _ h => h, h.ib2.stp st fun _ h => h, below_tr h.bl hb h.bl.size, fun k hk => ?_, h.ne⟩
  rw [st.tg k (Nat.lt_of_lt_of_le hk h.bl.size)]
  exact h.no k hk
theorem Kn2.call1 (h : Kn2 bk w0 s s2 T T2 W O) {c : CallP} (hc : c.B W) {k : Nat} (hl : LimT2 k T) (hk : k ≤ 800) {a : AnsP} (he : stepP bk T c = (a, T')) :
    Calls Tryz.prog 10 #[.pointer (some ⟨s, 0, none⟩), .agg c.cs] W fun e W2 => ∃ cs O2, e = .returned (.agg cs) ∧ AnsB W2 W.heap.size O2 cs a ∧ Kn2 bk w0 s s2 T' T2 W2 O2 ∧ Stp (fun τ => τ.1 = s) W O W2 O2 := by
  obtain ⟨m, bs, ib⟩ := h.ib
  refine (do_any ib hc (fun t ht => (hl.all t ht).up hk) (by have := hl.len; omega)).mono ?_
  rintro e W2 ⟨cs, O2, e1, an, ib2, st⟩
  rw [he] at an ib2
  exact ⟨cs, O2, e1, an, ⟨ib2, h.ib2.stp st fun i hi => h.ne hi.symm, st.below h.bl h.bl.size h.no, fun k hk => (st.tg k (Nat.lt_of_lt_of_le hk h.bl.size)).trans (h.no k hk), h.ne⟩, st⟩
theorem Kn2.call2 (h : Kn2 bk w0 s s2 T T2 W O) {c : CallP} (hc : c.B W) {k : Nat} (hl : LimT2 k T2) (hk : k ≤ 800) {a : AnsP} (he : stepP bk T2 c = (a, T')) :
    Calls Tryz.prog 10 #[.pointer (some ⟨s2, 0, none⟩), .agg c.cs] W fun e W2 => ∃ cs O2, e = .returned (.agg cs) ∧ AnsB W2 W.heap.size O2 cs a ∧ Kn2 bk w0 s s2 T T' W2 O2 ∧ Stp (fun τ => τ.1 = s2) W O W2 O2 := by
  obtain ⟨m, bs, ib⟩ := h.ib2
  refine (do_any ib hc (fun t ht => (hl.all t ht).up hk) (by have := hl.len; omega)).mono ?_
  rintro e W2 ⟨cs, O2, e1, an, ib2, st⟩
  rw [he] at an ib2
  exact ⟨cs, O2, e1, an, ⟨h.ib.stp st fun i hi => h.ne hi, ib2, st.below h.bl h.bl.size h.no, fun k hk => (st.tg k (Nat.lt_of_lt_of_le hk h.bl.size)).trans (h.no k hk), h.ne⟩, st⟩
theorem Kn2.nodup (h : Kn2 bk w0 s s2 T T2 W O) : (T.map (·.n)).Nodup := by obtain ⟨m, bs, ib⟩ := h.ib; exact ib.nodupT
end
set_option maxRecDepth 100000 in
/-- blocks out of range -/
theorem idNew_bad (b : Int) (hb : b < 8 ∨ 4096 < b) (w : World) : Calls Tryz.prog 7 #[.int .i64 b] w fun e w' =>
    e = .returned (.tuple #[.pointer none, .int .i64 2]) ∧ Below w.heap.size w w' := by
  rcases hb with h | h
  · have d0 : decide (b < 8) = true := by simp; omega
    go_enter Tryz.func7, Tryz.ntmps7
    go_wp2_with fail
    go_ret2
    exact ⟨rfl, Below.refl _ _⟩
  · have d0 : decide (b < 8) = false := by simp; omega
    have d1 : decide (4096 < b) = true := by simp; omega
    go_enter Tryz.func7, Tryz.ntmps7
    go_wp2_with fail
    go_ret2
    exact ⟨rfl, Below.refl _ _⟩
section
variable {A : Option Addr} {n c : Nat} {l : List CallP} {w : World}
set_option maxRecDepth 100000 in
set_option maxHeartbeats 8000000 in
theorem apart_bad (b : Int) (ten : Nat) (hb : b < 8 ∨ 4096 < b) :
    Calls Tryz.prog 3 #[.int .i64 b, .int .u32 (ten : Int), .slice A n c] w fun e w' => e = .returned (.bool true) ∧ Below w.heap.size w w' := by
  have HN := Lib.hid fun W => idNew_bad b hb W
  have HK := Lib.hid fun W => known26_any W
  rcases hb with h | h
  · have h8 : decide (8 ≤ b) = false := by simp; omega
    go_enter Tryz.func3, Tryz.ntmps3
    go_wp2_with fail
    refine (HN.out _).mono ?_
    rintro e w1 ⟨rfl, hb⟩
    have B1 := Lib.hid hb
    clear hb
    go_wp2_with fail
    refine (HN.out _).mono ?_
    rintro e w2 ⟨rfl, hb⟩
    have B2 := Lib.hid (below_tr B1.out hb B1.out.size)
    clear hb
    go_wp2_with fail
    refine (HK.out _).mono ?_
    rintro e w3 ⟨rfl, hb⟩
    have B3 := Lib.hid (below_tr B2.out hb B2.out.size)
    clear hb
    go_wp2_with fail
    go_ret
    exact ⟨rfl, B3.out⟩
  · have h8 : decide (8 ≤ b) = true := by simp; omega
    have h9 : decide (b ≤ 4096) = false := by simp; omega
    have h10 : 8 ≤ b := by omega
    go_enter Tryz.func3, Tryz.ntmps3
    go_wp2_with fail
    refine (HN.out _).mono ?_
    rintro e w1 ⟨rfl, hb⟩
    have B1 := Lib.hid hb
    clear hb
    go_wp2_with fail
    refine (HN.out _).mono ?_
    rintro e w2 ⟨rfl, hb⟩
    have B2 := Lib.hid (below_tr B1.out hb B1.out.size)
    clear hb
    go_wp2_with fail
    refine (HK.out _).mono ?_
    rintro e w3 ⟨rfl, hb⟩
    have B3 := Lib.hid (below_tr B2.out hb B2.out.size)
    clear hb
    go_wp2_with fail
    go_ret
    exact ⟨rfl, B3.out⟩
set_option maxRecDepth 100000 in
set_option maxHeartbeats 8000000 in
theorem apart_many (b ten : Nat) (hb : 8 ≤ b) (hb2 : b ≤ 4096) (hn : 150 < n) :
    Calls Tryz.prog 3 #[.int .i64 (b : Int), .int .u32 (ten : Int), .slice A n c] w fun e w' => e = .returned (.bool true) ∧ Below w.heap.size w w' := by
  have HN := Lib.hid fun W => idNew_any b hb hb2 W (fun _ => none)
  have HK := Lib.hid fun W => known26_any W
  have n0 : decide (8 ≤ (b : Int)) = true := by simp; omega
  have n1 : decide ((b : Int) ≤ 4096) = true := by simp; omega
  have n2 : decide ((150 : Int) < (n : Int)) = true := by simp; omega
  have m0 : 8 ≤ (b : Int) := by omega
  have m1 : (b : Int) ≤ 4096 := by omega
  have m2 : (150 : Int) < (n : Int) := by omega
  clear hb hb2 hn
  go_enter Tryz.func3, Tryz.ntmps3
  go_wp2_with fail
  refine (HN.out _).mono ?_
  rintro e w1 ⟨rfl, ib, sz, hb⟩
  have B1 := Lib.hid hb
  clear hb ib sz
  go_wp2_with fail
  refine (HN.out _).mono ?_
  rintro e w2 ⟨rfl, ib, sz, hb⟩
  have B2 := Lib.hid (below_tr B1.out hb B1.out.size)
  clear hb ib sz
  go_wp2_with fail
  refine (HK.out _).mono ?_
  rintro e w3 ⟨rfl, hb⟩
  have B3 := Lib.hid (below_tr B2.out hb B2.out.size)
  clear hb
  go_wp2_with fail
  go_ret
  exact ⟨rfl, B3.out⟩
end
theorem add_addr (a : Addr) (i : Nat) (h : i ≠ 0) : a.add i = ⟨a.block, a.off + i, none⟩ := by unfold Addr.add; rw [if_neg h]
/-- a call's cells -/
def CallC (w : World) (a : Addr) (q : CallP) : Prop := w.cell? a = some (.int .i64 q.kind) ∧ w.cell? ⟨a.block, a.off + 1, none⟩ = some (.int .u32 (q.ten : Int)) ∧ w.cell? ⟨a.block, a.off + 2, none⟩ = some (.slice q.sec.A q.sec.n q.sec.c) ∧ w.cell? ⟨a.block, a.off + 3, none⟩ = some (.int .i64 q.quota) ∧ w.cell? ⟨a.block, a.off + 4, none⟩ = some (.int .i64 q.n) ∧ w.cell? ⟨a.block, a.off + 5, none⟩ = some (.int .u64 (q.hd : Int)) ∧ w.cell? ⟨a.block, a.off + 6, none⟩ = some (.int .u64 (q.oth : Int)) ∧ w.cell? ⟨a.block, a.off + 7, none⟩ = some (.int .u64 (q.sn : Int)) ∧ w.cell? ⟨a.block, a.off + 8, none⟩ = some (.int .u8 (q.rt : Int)) ∧ w.cell? ⟨a.block, a.off + 9, none⟩ = some (.slice q.oA q.oN q.oC) ∧ w.cell? ⟨a.block, a.off + 10, none⟩ = some (.slice q.key.A q.key.n q.key.c) ∧ w.cell? ⟨a.block, a.off + 11, none⟩ = some (.slice q.frm.A q.frm.n q.frm.c) ∧ w.cell? ⟨a.block, a.off + 12, none⟩ = some (.slice q.upto.A q.upto.n q.upto.c) ∧ w.cell? ⟨a.block, a.off + 13, none⟩ = some (.bool q.back)
theorem CallC.fr {w w' : World} {a : Addr} {q : CallP} (h : CallC w a q) (hb : w'.heap[a.block]? = w.heap[a.block]?) : CallC w' a q := by
  obtain ⟨c0, c1, c2, c3, c4, c5, c6, c7, c8, c9, c10, c11, c12, c13⟩ := h
  have f : ∀ (x : Addr), x.block = a.block → w'.cell? x = w.cell? x := fun x e => World.cell?_of_block (by rw [e]; exact hb)
  exact ⟨(f a rfl).trans c0, (f ⟨a.block, a.off + 1, none⟩ rfl).trans c1, (f ⟨a.block, a.off + 2, none⟩ rfl).trans c2, (f ⟨a.block, a.off + 3, none⟩ rfl).trans c3, (f ⟨a.block, a.off + 4, none⟩ rfl).trans c4, (f ⟨a.block, a.off + 5, none⟩ rfl).trans c5, (f ⟨a.block, a.off + 6, none⟩ rfl).trans c6, (f ⟨a.block, a.off + 7, none⟩ rfl).trans c7, (f ⟨a.block, a.off + 8, none⟩ rfl).trans c8, (f ⟨a.block, a.off + 9, none⟩ rfl).trans c9, (f ⟨a.block, a.off + 10, none⟩ rfl).trans c10, (f ⟨a.block, a.off + 11, none⟩ rfl).trans c11, (f ⟨a.block, a.off + 12, none⟩ rfl).trans c12, (f ⟨a.block, a.off + 13, none⟩ rfl).trans c13⟩
theorem CallQ.cz {w : World} {a : Addr} {q : CallP} (h : CallQ w a q) : CallC w a q := by
  refine ⟨addZ a (h.1 0 _ rfl), ?_, ?_, ?_, ?_, ?_, ?_, ?_, ?_, ?_, ?_, ?_, ?_, ?_⟩
  · rw [← add_addr a 1 (by decide)]; exact h.1 1 _ rfl
  · rw [← add_addr a 2 (by decide)]; exact h.1 2 _ rfl
  · rw [← add_addr a 3 (by decide)]; exact h.1 3 _ rfl
  · rw [← add_addr a 4 (by decide)]; exact h.1 4 _ rfl
  · rw [← add_addr a 5 (by decide)]; exact h.1 5 _ rfl
  · rw [← add_addr a 6 (by decide)]; exact h.1 6 _ rfl
  · rw [← add_addr a 7 (by decide)]; exact h.1 7 _ rfl
  · rw [← add_addr a 8 (by decide)]; exact h.1 8 _ rfl
  · rw [← add_addr a 9 (by decide)]; exact h.1 9 _ rfl
  · rw [← add_addr a 10 (by decide)]; exact h.1 10 _ rfl
  · rw [← add_addr a 11 (by decide)]; exact h.1 11 _ rfl
  · rw [← add_addr a 12 (by decide)]; exact h.1 12 _ rfl
  · rw [← add_addr a 13 (by decide)]; exact h.1 13 _ rfl
theorem CallsB.at {w : World} {x : Addr} {n c : Nat} {l : List CallP} (h : CallsB w (some x) n c l) {i : Nat} {q : CallP} (hi : l[i]? = some q) : CallQ w (x.add (i * 14)) q := by
  obtain ⟨y, e, _, k⟩ := h.cel i q hi
  injection e with e
  subst e
  exact k
/-- what the other store's call tells, in a drawn region -/
def Do2R (b : Nat) (w0 : World) (s s2 : Nat) (T T' : List TnP) (w6 : World) (O6 : Tg) (a1 : AnsP) (v : Value) (W : World) : Prop := ∃ cs C O', v = .agg cs ∧ AnsB W C O' cs a1 ∧ Kn2 b w0 s s2 T T' W O' ∧ Stp (fun τ => τ.1 = s2) w6 O6 W O'
theorem Do2R.mono (b : Nat) (w0 : World) (s s2 : Nat) (T T' : List TnP) (w6 : World) (O6 : Tg) (a1 : AnsP) : Mono (Do2R b w0 s s2 T T' w6 O6 a1) := by
  rintro v W W' ⟨cs, C, O', e, h1, h2, h3⟩ hb
  exact ⟨cs, C, cutTg O' W.heap.size, e, h1.stp (Stp.cut hb (fun _ => False)) (fun h => h), h2.ab hb, h3.tr (Stp.cut hb _)⟩
def tgF (O6 : Tg) (s2 : Nat) (k : Nat) : Prop := ∃ τ, O6 k = some τ ∧ τ.1 = s2
theorem Kn2.do2 {b : Nat} {w0 w6 W : World} {s s2 : Nat} {T T2 : List TnP} {O6 : Tg} (h : Kn2 b w0 s s2 T T2 w6 O6) (hw : Below w6.heap.size w6 W) {c : CallP} (hc : c.B W) {k : Nat} (hl : LimT2 k T2) (hk : k ≤ 800) {a1 : AnsP} {T' : List TnP} (he : stepP b T2 c = (a1, T')) :
    Calls Tryz.prog 10 #[.pointer (some ⟨s2, 0, none⟩), .agg c.cs] W fun e W2 => ∃ v, e = .returned v ∧ Do2R b w0 s s2 T T' w6 O6 a1 v W2 ∧ Fr W W2 (tgF O6 s2) := by
  have h1 := h.ab hw
  have hp : 0 < s2 := by obtain ⟨m, bs, ib⟩ := h.ib2; exact ib.pos
  refine (h1.call2 hc hl hk he).mono ?_
  rintro e W2 ⟨cs, O2, rfl, an, k2, st⟩
  refine ⟨_, rfl, ⟨cs, _, O2, rfl, an, k2, (Stp.cut hw _).tr st⟩, st.fr.imp fun k ⟨τ, e1, e2⟩ => ?_⟩
  unfold cutTg at e1
  split at e1
  · exact ⟨τ, e1, e2⟩
  · injection e1 with e1
    subst e1
    exact absurd e2 (by show ¬ 0 = s2; omega)
section
variable {A : Option Addr} {n c : Nat} {l : List CallP} {w : World}
set_option maxRecDepth 100000 in
set_option maxHeartbeats 8000000 in
theorem apart_ok (b ten : Nat) (hb : 8 ≤ b) (hb2 : b ≤ 4096) (hn : n ≤ 150) (ht : ten < 4294967296) (h : CallsB w A n c l) :
    Calls Tryz.prog 3 #[.int .i64 (b : Int), .int .u32 (ten : Int), .slice A n c] w fun e w' => e = .returned (.bool true) ∧ Below w.heap.size w w' := by
  have HN := Lib.hid fun W O => idNew_any b hb hb2 W O
  have HK := Lib.hid fun W => known26_any W
  have n2 : decide ((150 : Int) < (n : Int)) = false := by simp; omega
  have n3 : (n : Int) ≤ 150 := by omega
  have NN := Lib.hid hn
  have HC := Lib.hid h
  clear hb hb2 hn h
  go_enter Tryz.func3, Tryz.ntmps3
  go_wp2_with fail
  refine (HN.out _ (fun _ => none)).mono ?_
  rintro e w1 ⟨rfl, ib1, sz1, hb1⟩
  have IB := Lib.hid ib1
  have SZ := Lib.hid sz1
  have B1 := Lib.hid hb1
  clear ib1 sz1 hb1
  go_wp2_with fail
  refine (HN.out _ (newTg (fun _ => none) w.heap.size (w.heap.size + 1))).mono ?_
  rintro e w2 ⟨rfl, ib2, sz2, hb2⟩
  have S2 := SZ.out
  have K : Hid (Kn2 b w (w.heap.size + 1) (w1.heap.size + 1) [] [] w2 (newTg (newTg (fun _ => none) w.heap.size (w.heap.size + 1)) w1.heap.size (w1.heap.size + 1))) := Lib.hid ⟨IB.out.stp (Stp.of hb2 (fun _ => False) fun k hk => by show newTg _ _ _ k = _; unfold newTg; rw [if_neg (by omega)]) fun _ h => h, ib2, below_tr B1.out hb2 B1.out.size, fun k hk => by unfold newTg; rw [if_neg (by omega), if_neg (by omega)], by omega⟩
  clear ib2 sz2 hb2 S2 IB SZ B1 HN
  obtain ⟨s1, hs1⟩ : ∃ s, w.heap.size + 1 = s := ⟨_, rfl⟩
  obtain ⟨s2, hs2⟩ : ∃ s, w1.heap.size + 1 = s := ⟨_, rfl⟩
  rw [hs1, hs2] at K ⊢
  clear hs1 hs2
  go_wp2_with fail
  go_loopw [11] (fun z wr => ∃ i : Nat, i ≤ n ∧ z = .int .i64 (i : Int) ∧ ∃ O T T2, Kn2 b w s1 s2 T T2 wr O ∧ RelT ten T T2 ∧ LimT2 i T ∧ LimT2 i T2) (fun z _ => n - (intOf z).toNat)
  case atStart => exact ⟨0, Nat.zero_le _, rfl, _, [], [], K.out, RelT.refl _ _, ⟨fun t ht => (by cases ht), Nat.zero_le _⟩, ⟨fun t ht => (by cases ht), Nat.zero_le _⟩⟩
  case round =>
    obtain ⟨i, hi, rfl, O, T, T2, k, rt, lt1, lt2⟩ := hrel
    have K := Lib.hid k
    have RT := Lib.hid rt
    have L1 := Lib.hid lt1
    have L2 := Lib.hid lt2
    clear k rt lt1 lt2
    by_cases hlt : i < n
    · obtain ⟨q, hq⟩ : ∃ q, l[i]? = some q := ⟨_, List.getElem?_eq_getElem (by rw [HC.out.len]; exact hlt)⟩
      obtain ⟨x, rfl, hxl, _⟩ := HC.out.cel i q hq
      have HQ := Lib.hid hq
      have XL := Lib.hid (show (x.add (i * 14)).block < w.heap.size by rw [add_block]; exact hxl)
      have KL := Lib.hid hlt
      have hlti : (i : Int) < (n : Int) := by omega
      have hi0 : (0 : Int) ≤ (i : Int) := by omega
      have I8 : Hid (i ≤ 800) := Lib.hid (by have := NN.out; omega)
      have ND := Lib.hid K.out.nodup
      have CQ := Lib.hid ((HC.out.ab K.out.bl).at HQ.out)
      have QL := Lib.hid CQ.out.2.ops.len
      obtain ⟨c0, c1, c2, c3, c4, c5, c6, c7, c8, c9, c10, c11, c12, c13⟩ := CQ.out.cz
      have HT := Lib.hid (tame_any q wr CQ.out.2)
      unfold CallP.cs at HT
      clear hq hi hlt hxl
      go_wp2_with fail
      refine HT.out.mono ?_
      rintro e w3 ⟨⟨bt, rfl⟩, hb⟩
      have K' := Lib.hid (K.out.ab hb)
      clear HT hb K CQ c0 c1 c2 c3 c4 c5 c6 c7 c8 c9 c10 c11 c12 c13
      have K := K'
      clear K'
      cases bt
      · go_wp2_with fail
        go_roundw
        case rel => exact ⟨i + 1, KL.out, by go_num, _, T, T2, K.out, RT.out, L1.out.up (Nat.le_succ i), L2.out.up (Nat.le_succ i)⟩
        case measure => simp [intOf]; have := KL.out; omega
      · have CQ := Lib.hid ((HC.out.ab K.out.bl).at HQ.out)
        obtain ⟨c0, c1, c2, c3, c4, c5, c6, c7, c8, c9, c10, c11, c12, c13⟩ := CQ.out.cz
        have HD := Lib.hid (K.out.call1 (c := q) CQ.out.2 L1.out I8.out (a := (stepP b T q).1) (T' := (stepP b T q).2) rfl)
        unfold CallP.cs at HD
        go_wp2_with fail
        refine HD.out.mono ?_
        rintro e w4 ⟨cs, O4, rfl, an, k4, st4⟩
        obtain ⟨A1, n1, k1, A2, n2', k2, A3, n3', k3, rfl, ow⟩ := an.err
        have BV := Lib.hid ow.byt
        have AN := Lib.hid an
        have K' := Lib.hid k4
        clear HD K k4 st4 an ow CQ c0 c1 c2 c3 c4 c5 c6 c7 c8 c9 c10 c11 c12 c13
        have K := K'
        clear K'
        go_upto_region 10 with (fail)
        have ba : Below w4.heap.size w4 (w4.alloc (.cells #[.int .i64 (stepP b T q).1.err, .int .u64 ((stepP b T q).1.hd : Int), .int .u64 ((stepP b T q).1.sn : Int), .slice A1 n1 k1, .slice A2 n2' k2, .int .i64 (stepP b T q).1.cnt, .slice A3 n3' k3] 40)) := (Below.refl _ _).alloc (Nat.le_refl _) _
        have k := K.out.ab ba
        have XAn := AtX.new w4 O4 40 #[.int .i64 (stepP b T q).1.err, .int .u64 ((stepP b T q).1.hd : Int), .int .u64 ((stepP b T q).1.sn : Int), .slice A1 n1 k1, .slice A2 n2' k2, .int .i64 (stepP b T q).1.cnt, .slice A3 n3' k3]
        have ANn := AN.out.stp (Stp.cut ba (fun _ => False)) (fun h => h)
        obtain ⟨O5, hO5⟩ : ∃ Ox, cutTg O4 w4.heap.size = Ox := ⟨_, rfl⟩
        rw [hO5] at k XAn ANn
        clear hO5
        obtain ⟨w5, hw5⟩ : ∃ w5, w4.alloc (.cells #[.int .i64 (stepP b T q).1.err, .int .u64 ((stepP b T q).1.hd : Int), .int .u64 ((stepP b T q).1.sn : Int), .slice A1 n1 k1, .slice A2 n2' k2, .int .i64 (stepP b T q).1.cnt, .slice A3 n3' k3] 40) = w5 := ⟨_, rfl⟩
        rw [hw5] at k XAn ANn ⊢
        obtain ⟨g, hg⟩ : ∃ g, w4.heap.size = g := ⟨_, rfl⟩
        rw [hg] at XAn ⊢
        clear hg hw5 ba K AN
        have K := Lib.hid k
        have XA := Lib.hid XAn
        have AN := Lib.hid ANn
        clear k XAn ANn
        have CQ := Lib.hid ((HC.out.ab K.out.bl).at HQ.out)
        have HTn := Lib.hid (tenOf_any q w5 CQ.out.2.ok)
        unfold CallP.cs at HTn
        obtain ⟨c0, c1, c2, c3, c4, c5, c6, c7, c8, c9, c10, c11, c12, c13⟩ := CQ.out.cz
        go_wp2_with fail
        refine HTn.out.mono ?_
        rintro e w6 ⟨rfl, hb⟩
        have k := K.out.ab hb
        have XAn := XA.out.stp (Stp.cut hb (fun _ => False)) (fun h => h)
        have ANn := AN.out.stp (Stp.cut hb (fun _ => False)) (fun h => h)
        obtain ⟨O6, hO6⟩ : ∃ Ox, cutTg O5 w5.heap.size = Ox := ⟨_, rfl⟩
        rw [hO6] at k XAn ANn
        clear hO6 hb K XA AN HTn CQ c0 c1 c2 c3 c4 c5 c6 c7 c8 c9 c10 c11 c12 c13
        have K := Lib.hid k
        have XA := Lib.hid XAn
        have AN := Lib.hid ANn
        clear k XAn ANn
        have CQ := Lib.hid ((HC.out.ab K.out.bl).at HQ.out)
        by_cases hten : tenOf q = ten
        · have HOW : Hid (tenOf q = ten ∨ q.kind = 1 ∨ q.kind = 2) := Lib.hid (.inl hten)
          rw [hten]
          clear hten
          have OW := Lib.hid (step_own RT.out ND.out b HOW.out)
          clear HOW
          obtain ⟨c0, c1, c2, c3, c4, c5, c6, c7, c8, c9, c10, c11, c12, c13⟩ := CQ.out.cz
          go_upto_region 11 with (fail)
          clear c0 c1 c2 c3 c4 c5 c6 c7 c8 c9 c10 c11 c12 c13
          have NP : Hid (∀ τ : Nat × Nat, τ.1 = s2 → 0 < τ.1) := Lib.hid fun τ e => by obtain ⟨m, bs, ib⟩ := K.out.ib2; rw [e]; exact ib.pos
          have NG : Hid (¬ tgF O6 s2 g) := Lib.hid fun ⟨τ, e1, e2⟩ => by
            rw [XA.out.2] at e1
            injection e1 with e1
            subst e1
            exact absurd (NP.out _ e2) (by decide)
          have NX : Hid (¬ tgF O6 s2 (x.add (i * 14)).block) := Lib.hid fun ⟨τ, e1, e2⟩ => by
            rw [K.out.no _ XL.out] at e1
            cases e1
          have XL6 := Lib.hid (Nat.lt_of_lt_of_le XL.out K.out.bl.size)
          refine wp_wideW 6 (tgF O6 s2) [⟨87, IsR (.agg #[.int .i64 (stepP b T q).1.err, .int .u64 ((stepP b T q).1.hd : Int), .int .u64 ((stepP b T q).1.sn : Int), .slice A1 n1 k1, .slice A2 n2' k2, .int .i64 (stepP b T q).1.cnt, .slice A3 n3' k3]), [], false⟩, ⟨88, IsR (.pointer (some ⟨s2, 0, none⟩)), [], false⟩, ⟨89, IsR (.slice (some x) n c), [], false⟩, ⟨90, IsR (.int .i64 (i : Int)), [], false⟩, ⟨91, IsR (.pointer (some (x.add (i * 14)))), [2, 3], false⟩, ⟨92, IsR (.agg #[.int .i64 q.kind, .int .u32 (q.ten : Int), .slice q.sec.A q.sec.n q.sec.c, .int .i64 q.quota, .int .i64 q.n, .int .u64 (q.hd : Int), .int .u64 (q.oth : Int), .int .u64 (q.sn : Int), .int .u8 (q.rt : Int), .slice q.oA q.oN q.oC, .slice q.key.A q.key.n q.key.c, .slice q.frm.A q.frm.n q.frm.c, .slice q.upto.A q.upto.n q.upto.c, .bool q.back]), [4], false⟩, ⟨93, Do2R b w s1 s2 (stepP b T q).2 (stepP b T2 q).2 w6 O6 (stepP b T q).1, [1, 5], false⟩] (by kernel_rfl) (by kernel_rfl) rfl rfl rfl ⟨?_, ?_, ?_, ?_, ?_, ?_, ?_, trivial⟩ ?_
          · refine ⟨rfl, IsR.mono _, .inr fun _ _ _ h _ => h, fun a W hA hb hd => ⟨fun _ => takes_plain rfl (yields_value _ ?_ rfl), fun e => absurd e (by decide)⟩⟩
            have h12 : a.tmps[12]?.getD undef = .pointer (some ⟨g, 0, none⟩) := (eval_get a 12).trans ((hA.eval (by simp)).trans rfl)
            have xw := XA.out.1.fr hb NG.out
            have y0 : W.cell? ⟨g, 0, none⟩ = some (.int .i64 (stepP b T q).1.err) := xw.cell (k := 0) rfl
            have y1 : W.cell? ⟨g, 1, none⟩ = some (.int .u64 ((stepP b T q).1.hd : Int)) := xw.cell (k := 1) rfl
            have y2 : W.cell? ⟨g, 2, none⟩ = some (.int .u64 ((stepP b T q).1.sn : Int)) := xw.cell (k := 2) rfl
            have y3 : W.cell? ⟨g, 3, none⟩ = some (.slice A1 n1 k1) := xw.cell (k := 3) rfl
            have y4 : W.cell? ⟨g, 4, none⟩ = some (.slice A2 n2' k2) := xw.cell (k := 4) rfl
            have y5 : W.cell? ⟨g, 5, none⟩ = some (.int .i64 (stepP b T q).1.cnt) := xw.cell (k := 5) rfl
            have y6 : W.cell? ⟨g, 6, none⟩ = some (.slice A3 n3' k3) := xw.cell (k := 6) rfl
            go_simp
          · refine ⟨rfl, IsR.mono _, .inr fun _ _ _ h _ => h, fun a W hA hb hd => ⟨fun _ => takes_plain rfl (yields_value _ ?_ rfl), fun e => absurd e (by decide)⟩⟩
            have h9 : a.tmps[9]?.getD undef = .pointer (some ⟨s2, 0, none⟩) := (eval_get a 9).trans ((hA.eval (by simp)).trans rfl)
            go_simp
          · refine ⟨rfl, IsR.mono _, .inr fun _ _ _ h _ => h, fun a W hA hb hd => ⟨fun _ => takes_plain rfl (yields_value _ ?_ rfl), fun e => absurd e (by decide)⟩⟩
            have h2 : a.tmps[2]?.getD undef = .slice (some x) n c := (eval_get a 2).trans ((hA.eval (by simp)).trans rfl)
            go_simp
          · refine ⟨rfl, IsR.mono _, .inr fun _ _ _ h _ => h, fun a W hA hb hd => ⟨fun _ => takes_plain rfl (yields_value _ ?_ rfl), fun e => absurd e (by decide)⟩⟩
            have h11 : a.tmps[11]?.getD undef = .int .i64 (i : Int) := (eval_get a 11).trans ((hA.eval (by simp)).trans rfl)
            go_simp
          · refine ⟨rfl, IsR.mono _, .inr fun _ _ _ h _ => h, fun a W hA hb hd => ⟨fun _ => takes_plain rfl (yields_value _ ?_ rfl), fun e => absurd e (by decide)⟩⟩
            have h89 : a.tmps[89]?.getD undef = .slice (some x) n c := (eval_get a 89).trans (hd 2 (by simp) _ rfl)
            have h90 : a.tmps[90]?.getD undef = .int .i64 (i : Int) := (eval_get a 90).trans (hd 3 (by simp) _ rfl)
            go_simp
          · refine ⟨rfl, IsR.mono _, .inr fun _ _ _ h _ => h, fun a W hA hb hd => ⟨fun _ => takes_plain rfl (yields_value _ ?_ rfl), fun e => absurd e (by decide)⟩⟩
            have h91 : a.tmps[91]?.getD undef = .pointer (some (x.add (i * 14))) := (eval_get a 91).trans (hd 4 (by simp) _ rfl)
            have cf : CallC W (x.add (i * 14)) q := CQ.out.cz.fr (hb.block _ XL6.out NX.out)
            obtain ⟨c0, c1, c2, c3, c4, c5, c6, c7, c8, c9, c10, c11, c12, c13⟩ := cf
            go_simp
          · refine ⟨rfl, Do2R.mono _ _ _ _ _ _ _ _ _, .inl rfl, fun a W hA hb hd => ⟨fun e => absurd rfl e, fun _ hw => ?_⟩⟩
            have h88 : a.tmps[88]?.getD undef = .pointer (some ⟨s2, 0, none⟩) := (eval_get a 88).trans (hd 1 (by simp) _ rfl)
            have h92 : a.tmps[92]?.getD undef = .agg #[.int .i64 q.kind, .int .u32 (q.ten : Int), .slice q.sec.A q.sec.n q.sec.c, .int .i64 q.quota, .int .i64 q.n, .int .u64 (q.hd : Int), .int .u64 (q.oth : Int), .int .u64 (q.sn : Int), .int .u8 (q.rt : Int), .slice q.oA q.oN q.oC, .slice q.key.A q.key.n q.key.c, .slice q.frm.A q.frm.n q.frm.c, .slice q.upto.A q.upto.n q.upto.c, .bool q.back] := (eval_get a 92).trans (hd 5 (by simp) _ rfl)
            have hcall := K.out.do2 hw (c := q) ((CQ.out.2).ab hw) L2.out I8.out (a1 := (stepP b T q).1) (T' := (stepP b T2 q).2) (by rw [OW.out.1])
            exact .inl ⟨by simp [Region.wanted], .inr ⟨10, #[.pointer (some ⟨s2, 0, none⟩), .agg #[.int .i64 q.kind, .int .u32 (q.ten : Int), .slice q.sec.A q.sec.n q.sec.c, .int .i64 q.quota, .int .i64 q.n, .int .u64 (q.hd : Int), .int .u64 (q.oth : Int), .int .u64 (q.sn : Int), .int .u8 (q.rt : Int), .slice q.oA q.oN q.oC, .slice q.key.A q.key.n q.key.c, .slice q.frm.A q.frm.n q.frm.c, .slice q.upto.A q.upto.n q.upto.c, .bool q.back]], by go_simp, hcall⟩⟩
          intro vs W9 hR hb
          have e87 : vs 87 = .agg #[.int .i64 (stepP b T q).1.err, .int .u64 ((stepP b T q).1.hd : Int), .int .u64 ((stepP b T q).1.sn : Int), .slice A1 n1 k1, .slice A2 n2' k2, .int .i64 (stepP b T q).1.cnt, .slice A3 n3' k3] := hR 0 _ rfl
          have e88 : vs 88 = .pointer (some ⟨s2, 0, none⟩) := hR 1 _ rfl
          have e89 : vs 89 = .slice (some x) n c := hR 2 _ rfl
          have e90 : vs 90 = .int .i64 (i : Int) := hR 3 _ rfl
          have e91 : vs 91 = .pointer (some (x.add (i * 14))) := hR 4 _ rfl
          have e92 : vs 92 = .agg #[.int .i64 q.kind, .int .u32 (q.ten : Int), .slice q.sec.A q.sec.n q.sec.c, .int .i64 q.quota, .int .i64 q.n, .int .u64 (q.hd : Int), .int .u64 (q.oth : Int), .int .u64 (q.sn : Int), .int .u8 (q.rt : Int), .slice q.oA q.oN q.oC, .slice q.key.A q.key.n q.key.c, .slice q.frm.A q.frm.n q.frm.c, .slice q.upto.A q.upto.n q.upto.c, .bool q.back] := hR 5 _ rfl
          obtain ⟨cs9, C9, O9, e93, an9, k9, st9⟩ : Do2R b w s1 s2 (stepP b T q).2 (stepP b T2 q).2 w6 O6 (stepP b T q).1 (vs 93) W9 := hR 6 _ rfl
          simp only [List.map_cons, List.map_nil, List.foldl_cons, List.foldl_nil, List.length_cons, List.length_nil, List.drop_succ_cons, List.drop_zero, Act.put, List.setIfInBounds_toArray, List.set_cons_zero, List.set_cons_succ, e87, e88, e89, e90, e91, e92, e93]
          have A9 := Lib.hid (AN.out.stp st9 (fun e => absurd (NP.out _ e) (by decide)))
          have SH := Lib.hid (step_sh (c := q) (T := T) (by have := L1.out.len; have := I8.out; omega) b)
          have HSM := Lib.hid (ansSame_yes W9 _ _ _ _ _ _ (stepP b T q).1 A9.out an9 SH.out.prs SH.out.lst BV.out)
          have K9 := Lib.hid k9
          clear hR hb e87 e88 e89 e90 e91 e92 e93 an9 k9 st9 A9
          go_wp2_with fail
          refine HSM.out.mono ?_
          rintro e w10 ⟨rfl, hb⟩
          have KX := Lib.hid (K9.out.ab hb)
          clear hb K9 HSM
          go_wp2_with fail
          go_roundw
          case rel => exact ⟨i + 1, KL.out, by go_num, _, _, _, KX.out, OW.out.2, step_lim L1.out QL.out b, step_lim L2.out QL.out b⟩
          case measure => simp [intOf]; have := KL.out; omega
        · have HTN := Lib.hid hten
          have e1 : ¬ (tenOf q : Int) = (ten : Int) := by omega
          clear hten
          by_cases hk1 : q.kind = 1
          · have HOW : Hid (tenOf q = ten ∨ q.kind = 1 ∨ q.kind = 2) := Lib.hid (.inr (.inl hk1))
            have OW := Lib.hid (step_own RT.out ND.out b HOW.out)
            clear HOW
            obtain ⟨c0, c1, c2, c3, c4, c5, c6, c7, c8, c9, c10, c11, c12, c13⟩ := CQ.out.cz
            go_upto_region 11 with (fail)
            clear hk1 e1
            clear c0 c1 c2 c3 c4 c5 c6 c7 c8 c9 c10 c11 c12 c13
            have NP : Hid (∀ τ : Nat × Nat, τ.1 = s2 → 0 < τ.1) := Lib.hid fun τ e => by obtain ⟨m, bs, ib⟩ := K.out.ib2; rw [e]; exact ib.pos
            have NG : Hid (¬ tgF O6 s2 g) := Lib.hid fun ⟨τ, e1, e2⟩ => by
              rw [XA.out.2] at e1
              injection e1 with e1
              subst e1
              exact absurd (NP.out _ e2) (by decide)
            have NX : Hid (¬ tgF O6 s2 (x.add (i * 14)).block) := Lib.hid fun ⟨τ, e1, e2⟩ => by
              rw [K.out.no _ XL.out] at e1
              cases e1
            have XL6 := Lib.hid (Nat.lt_of_lt_of_le XL.out K.out.bl.size)
            refine wp_wideW 6 (tgF O6 s2) [⟨87, IsR (.agg #[.int .i64 (stepP b T q).1.err, .int .u64 ((stepP b T q).1.hd : Int), .int .u64 ((stepP b T q).1.sn : Int), .slice A1 n1 k1, .slice A2 n2' k2, .int .i64 (stepP b T q).1.cnt, .slice A3 n3' k3]), [], false⟩, ⟨88, IsR (.pointer (some ⟨s2, 0, none⟩)), [], false⟩, ⟨89, IsR (.slice (some x) n c), [], false⟩, ⟨90, IsR (.int .i64 (i : Int)), [], false⟩, ⟨91, IsR (.pointer (some (x.add (i * 14)))), [2, 3], false⟩, ⟨92, IsR (.agg #[.int .i64 q.kind, .int .u32 (q.ten : Int), .slice q.sec.A q.sec.n q.sec.c, .int .i64 q.quota, .int .i64 q.n, .int .u64 (q.hd : Int), .int .u64 (q.oth : Int), .int .u64 (q.sn : Int), .int .u8 (q.rt : Int), .slice q.oA q.oN q.oC, .slice q.key.A q.key.n q.key.c, .slice q.frm.A q.frm.n q.frm.c, .slice q.upto.A q.upto.n q.upto.c, .bool q.back]), [4], false⟩, ⟨93, Do2R b w s1 s2 (stepP b T q).2 (stepP b T2 q).2 w6 O6 (stepP b T q).1, [1, 5], false⟩] (by kernel_rfl) (by kernel_rfl) rfl rfl rfl ⟨?_, ?_, ?_, ?_, ?_, ?_, ?_, trivial⟩ ?_
            · refine ⟨rfl, IsR.mono _, .inr fun _ _ _ h _ => h, fun a W hA hb hd => ⟨fun _ => takes_plain rfl (yields_value _ ?_ rfl), fun e => absurd e (by decide)⟩⟩
              have h12 : a.tmps[12]?.getD undef = .pointer (some ⟨g, 0, none⟩) := (eval_get a 12).trans ((hA.eval (by simp)).trans rfl)
              have xw := XA.out.1.fr hb NG.out
              have y0 : W.cell? ⟨g, 0, none⟩ = some (.int .i64 (stepP b T q).1.err) := xw.cell (k := 0) rfl
              have y1 : W.cell? ⟨g, 1, none⟩ = some (.int .u64 ((stepP b T q).1.hd : Int)) := xw.cell (k := 1) rfl
              have y2 : W.cell? ⟨g, 2, none⟩ = some (.int .u64 ((stepP b T q).1.sn : Int)) := xw.cell (k := 2) rfl
              have y3 : W.cell? ⟨g, 3, none⟩ = some (.slice A1 n1 k1) := xw.cell (k := 3) rfl
              have y4 : W.cell? ⟨g, 4, none⟩ = some (.slice A2 n2' k2) := xw.cell (k := 4) rfl
              have y5 : W.cell? ⟨g, 5, none⟩ = some (.int .i64 (stepP b T q).1.cnt) := xw.cell (k := 5) rfl
              have y6 : W.cell? ⟨g, 6, none⟩ = some (.slice A3 n3' k3) := xw.cell (k := 6) rfl
              go_simp
            · refine ⟨rfl, IsR.mono _, .inr fun _ _ _ h _ => h, fun a W hA hb hd => ⟨fun _ => takes_plain rfl (yields_value _ ?_ rfl), fun e => absurd e (by decide)⟩⟩
              have h9 : a.tmps[9]?.getD undef = .pointer (some ⟨s2, 0, none⟩) := (eval_get a 9).trans ((hA.eval (by simp)).trans rfl)
              go_simp
            · refine ⟨rfl, IsR.mono _, .inr fun _ _ _ h _ => h, fun a W hA hb hd => ⟨fun _ => takes_plain rfl (yields_value _ ?_ rfl), fun e => absurd e (by decide)⟩⟩
              have h2 : a.tmps[2]?.getD undef = .slice (some x) n c := (eval_get a 2).trans ((hA.eval (by simp)).trans rfl)
              go_simp
            · refine ⟨rfl, IsR.mono _, .inr fun _ _ _ h _ => h, fun a W hA hb hd => ⟨fun _ => takes_plain rfl (yields_value _ ?_ rfl), fun e => absurd e (by decide)⟩⟩
              have h11 : a.tmps[11]?.getD undef = .int .i64 (i : Int) := (eval_get a 11).trans ((hA.eval (by simp)).trans rfl)
              go_simp
            · refine ⟨rfl, IsR.mono _, .inr fun _ _ _ h _ => h, fun a W hA hb hd => ⟨fun _ => takes_plain rfl (yields_value _ ?_ rfl), fun e => absurd e (by decide)⟩⟩
              have h89 : a.tmps[89]?.getD undef = .slice (some x) n c := (eval_get a 89).trans (hd 2 (by simp) _ rfl)
              have h90 : a.tmps[90]?.getD undef = .int .i64 (i : Int) := (eval_get a 90).trans (hd 3 (by simp) _ rfl)
              go_simp
            · refine ⟨rfl, IsR.mono _, .inr fun _ _ _ h _ => h, fun a W hA hb hd => ⟨fun _ => takes_plain rfl (yields_value _ ?_ rfl), fun e => absurd e (by decide)⟩⟩
              have h91 : a.tmps[91]?.getD undef = .pointer (some (x.add (i * 14))) := (eval_get a 91).trans (hd 4 (by simp) _ rfl)
              have cf : CallC W (x.add (i * 14)) q := CQ.out.cz.fr (hb.block _ XL6.out NX.out)
              obtain ⟨c0, c1, c2, c3, c4, c5, c6, c7, c8, c9, c10, c11, c12, c13⟩ := cf
              go_simp
            · refine ⟨rfl, Do2R.mono _ _ _ _ _ _ _ _ _, .inl rfl, fun a W hA hb hd => ⟨fun e => absurd rfl e, fun _ hw => ?_⟩⟩
              have h88 : a.tmps[88]?.getD undef = .pointer (some ⟨s2, 0, none⟩) := (eval_get a 88).trans (hd 1 (by simp) _ rfl)
              have h92 : a.tmps[92]?.getD undef = .agg #[.int .i64 q.kind, .int .u32 (q.ten : Int), .slice q.sec.A q.sec.n q.sec.c, .int .i64 q.quota, .int .i64 q.n, .int .u64 (q.hd : Int), .int .u64 (q.oth : Int), .int .u64 (q.sn : Int), .int .u8 (q.rt : Int), .slice q.oA q.oN q.oC, .slice q.key.A q.key.n q.key.c, .slice q.frm.A q.frm.n q.frm.c, .slice q.upto.A q.upto.n q.upto.c, .bool q.back] := (eval_get a 92).trans (hd 5 (by simp) _ rfl)
              have hcall := K.out.do2 hw (c := q) ((CQ.out.2).ab hw) L2.out I8.out (a1 := (stepP b T q).1) (T' := (stepP b T2 q).2) (by rw [OW.out.1])
              exact .inl ⟨by simp [Region.wanted], .inr ⟨10, #[.pointer (some ⟨s2, 0, none⟩), .agg #[.int .i64 q.kind, .int .u32 (q.ten : Int), .slice q.sec.A q.sec.n q.sec.c, .int .i64 q.quota, .int .i64 q.n, .int .u64 (q.hd : Int), .int .u64 (q.oth : Int), .int .u64 (q.sn : Int), .int .u8 (q.rt : Int), .slice q.oA q.oN q.oC, .slice q.key.A q.key.n q.key.c, .slice q.frm.A q.frm.n q.frm.c, .slice q.upto.A q.upto.n q.upto.c, .bool q.back]], by go_simp, hcall⟩⟩
            intro vs W9 hR hb
            have e87 : vs 87 = .agg #[.int .i64 (stepP b T q).1.err, .int .u64 ((stepP b T q).1.hd : Int), .int .u64 ((stepP b T q).1.sn : Int), .slice A1 n1 k1, .slice A2 n2' k2, .int .i64 (stepP b T q).1.cnt, .slice A3 n3' k3] := hR 0 _ rfl
            have e88 : vs 88 = .pointer (some ⟨s2, 0, none⟩) := hR 1 _ rfl
            have e89 : vs 89 = .slice (some x) n c := hR 2 _ rfl
            have e90 : vs 90 = .int .i64 (i : Int) := hR 3 _ rfl
            have e91 : vs 91 = .pointer (some (x.add (i * 14))) := hR 4 _ rfl
            have e92 : vs 92 = .agg #[.int .i64 q.kind, .int .u32 (q.ten : Int), .slice q.sec.A q.sec.n q.sec.c, .int .i64 q.quota, .int .i64 q.n, .int .u64 (q.hd : Int), .int .u64 (q.oth : Int), .int .u64 (q.sn : Int), .int .u8 (q.rt : Int), .slice q.oA q.oN q.oC, .slice q.key.A q.key.n q.key.c, .slice q.frm.A q.frm.n q.frm.c, .slice q.upto.A q.upto.n q.upto.c, .bool q.back] := hR 5 _ rfl
            obtain ⟨cs9, C9, O9, e93, an9, k9, st9⟩ : Do2R b w s1 s2 (stepP b T q).2 (stepP b T2 q).2 w6 O6 (stepP b T q).1 (vs 93) W9 := hR 6 _ rfl
            simp only [List.map_cons, List.map_nil, List.foldl_cons, List.foldl_nil, List.length_cons, List.length_nil, List.drop_succ_cons, List.drop_zero, Act.put, List.setIfInBounds_toArray, List.set_cons_zero, List.set_cons_succ, e87, e88, e89, e90, e91, e92, e93]
            have A9 := Lib.hid (AN.out.stp st9 (fun e => absurd (NP.out _ e) (by decide)))
            have SH := Lib.hid (step_sh (c := q) (T := T) (by have := L1.out.len; have := I8.out; omega) b)
            have HSM := Lib.hid (ansSame_yes W9 _ _ _ _ _ _ (stepP b T q).1 A9.out an9 SH.out.prs SH.out.lst BV.out)
            have K9 := Lib.hid k9
            clear hR hb e87 e88 e89 e90 e91 e92 e93 an9 k9 st9 A9
            go_wp2_with fail
            refine HSM.out.mono ?_
            rintro e w10 ⟨rfl, hb⟩
            have KX := Lib.hid (K9.out.ab hb)
            clear hb K9 HSM
            go_wp2_with fail
            go_roundw
            case rel => exact ⟨i + 1, KL.out, by go_num, _, _, _, KX.out, OW.out.2, step_lim L1.out QL.out b, step_lim L2.out QL.out b⟩
            case measure => simp [intOf]; have := KL.out; omega
          · by_cases hk2 : q.kind = 2
            · have HOW : Hid (tenOf q = ten ∨ q.kind = 1 ∨ q.kind = 2) := Lib.hid (.inr (.inr hk2))
              have OW := Lib.hid (step_own RT.out ND.out b HOW.out)
              clear HOW
              obtain ⟨c0, c1, c2, c3, c4, c5, c6, c7, c8, c9, c10, c11, c12, c13⟩ := CQ.out.cz
              go_upto_region 11 with (fail)
              clear hk1 hk2 e1
              clear c0 c1 c2 c3 c4 c5 c6 c7 c8 c9 c10 c11 c12 c13
              have NP : Hid (∀ τ : Nat × Nat, τ.1 = s2 → 0 < τ.1) := Lib.hid fun τ e => by obtain ⟨m, bs, ib⟩ := K.out.ib2; rw [e]; exact ib.pos
              have NG : Hid (¬ tgF O6 s2 g) := Lib.hid fun ⟨τ, e1, e2⟩ => by
                rw [XA.out.2] at e1
                injection e1 with e1
                subst e1
                exact absurd (NP.out _ e2) (by decide)
              have NX : Hid (¬ tgF O6 s2 (x.add (i * 14)).block) := Lib.hid fun ⟨τ, e1, e2⟩ => by
                rw [K.out.no _ XL.out] at e1
                cases e1
              have XL6 := Lib.hid (Nat.lt_of_lt_of_le XL.out K.out.bl.size)
              refine wp_wideW 6 (tgF O6 s2) [⟨87, IsR (.agg #[.int .i64 (stepP b T q).1.err, .int .u64 ((stepP b T q).1.hd : Int), .int .u64 ((stepP b T q).1.sn : Int), .slice A1 n1 k1, .slice A2 n2' k2, .int .i64 (stepP b T q).1.cnt, .slice A3 n3' k3]), [], false⟩, ⟨88, IsR (.pointer (some ⟨s2, 0, none⟩)), [], false⟩, ⟨89, IsR (.slice (some x) n c), [], false⟩, ⟨90, IsR (.int .i64 (i : Int)), [], false⟩, ⟨91, IsR (.pointer (some (x.add (i * 14)))), [2, 3], false⟩, ⟨92, IsR (.agg #[.int .i64 q.kind, .int .u32 (q.ten : Int), .slice q.sec.A q.sec.n q.sec.c, .int .i64 q.quota, .int .i64 q.n, .int .u64 (q.hd : Int), .int .u64 (q.oth : Int), .int .u64 (q.sn : Int), .int .u8 (q.rt : Int), .slice q.oA q.oN q.oC, .slice q.key.A q.key.n q.key.c, .slice q.frm.A q.frm.n q.frm.c, .slice q.upto.A q.upto.n q.upto.c, .bool q.back]), [4], false⟩, ⟨93, Do2R b w s1 s2 (stepP b T q).2 (stepP b T2 q).2 w6 O6 (stepP b T q).1, [1, 5], false⟩] (by kernel_rfl) (by kernel_rfl) rfl rfl rfl ⟨?_, ?_, ?_, ?_, ?_, ?_, ?_, trivial⟩ ?_
              · refine ⟨rfl, IsR.mono _, .inr fun _ _ _ h _ => h, fun a W hA hb hd => ⟨fun _ => takes_plain rfl (yields_value _ ?_ rfl), fun e => absurd e (by decide)⟩⟩
                have h12 : a.tmps[12]?.getD undef = .pointer (some ⟨g, 0, none⟩) := (eval_get a 12).trans ((hA.eval (by simp)).trans rfl)
                have xw := XA.out.1.fr hb NG.out
                have y0 : W.cell? ⟨g, 0, none⟩ = some (.int .i64 (stepP b T q).1.err) := xw.cell (k := 0) rfl
                have y1 : W.cell? ⟨g, 1, none⟩ = some (.int .u64 ((stepP b T q).1.hd : Int)) := xw.cell (k := 1) rfl
                have y2 : W.cell? ⟨g, 2, none⟩ = some (.int .u64 ((stepP b T q).1.sn : Int)) := xw.cell (k := 2) rfl
                have y3 : W.cell? ⟨g, 3, none⟩ = some (.slice A1 n1 k1) := xw.cell (k := 3) rfl
                have y4 : W.cell? ⟨g, 4, none⟩ = some (.slice A2 n2' k2) := xw.cell (k := 4) rfl
                have y5 : W.cell? ⟨g, 5, none⟩ = some (.int .i64 (stepP b T q).1.cnt) := xw.cell (k := 5) rfl
                have y6 : W.cell? ⟨g, 6, none⟩ = some (.slice A3 n3' k3) := xw.cell (k := 6) rfl
                go_simp
              · refine ⟨rfl, IsR.mono _, .inr fun _ _ _ h _ => h, fun a W hA hb hd => ⟨fun _ => takes_plain rfl (yields_value _ ?_ rfl), fun e => absurd e (by decide)⟩⟩
                have h9 : a.tmps[9]?.getD undef = .pointer (some ⟨s2, 0, none⟩) := (eval_get a 9).trans ((hA.eval (by simp)).trans rfl)
                go_simp
              · refine ⟨rfl, IsR.mono _, .inr fun _ _ _ h _ => h, fun a W hA hb hd => ⟨fun _ => takes_plain rfl (yields_value _ ?_ rfl), fun e => absurd e (by decide)⟩⟩
                have h2 : a.tmps[2]?.getD undef = .slice (some x) n c := (eval_get a 2).trans ((hA.eval (by simp)).trans rfl)
                go_simp
              · refine ⟨rfl, IsR.mono _, .inr fun _ _ _ h _ => h, fun a W hA hb hd => ⟨fun _ => takes_plain rfl (yields_value _ ?_ rfl), fun e => absurd e (by decide)⟩⟩
                have h11 : a.tmps[11]?.getD undef = .int .i64 (i : Int) := (eval_get a 11).trans ((hA.eval (by simp)).trans rfl)
                go_simp
              · refine ⟨rfl, IsR.mono _, .inr fun _ _ _ h _ => h, fun a W hA hb hd => ⟨fun _ => takes_plain rfl (yields_value _ ?_ rfl), fun e => absurd e (by decide)⟩⟩
                have h89 : a.tmps[89]?.getD undef = .slice (some x) n c := (eval_get a 89).trans (hd 2 (by simp) _ rfl)
                have h90 : a.tmps[90]?.getD undef = .int .i64 (i : Int) := (eval_get a 90).trans (hd 3 (by simp) _ rfl)
                go_simp
              · refine ⟨rfl, IsR.mono _, .inr fun _ _ _ h _ => h, fun a W hA hb hd => ⟨fun _ => takes_plain rfl (yields_value _ ?_ rfl), fun e => absurd e (by decide)⟩⟩
                have h91 : a.tmps[91]?.getD undef = .pointer (some (x.add (i * 14))) := (eval_get a 91).trans (hd 4 (by simp) _ rfl)
                have cf : CallC W (x.add (i * 14)) q := CQ.out.cz.fr (hb.block _ XL6.out NX.out)
                obtain ⟨c0, c1, c2, c3, c4, c5, c6, c7, c8, c9, c10, c11, c12, c13⟩ := cf
                go_simp
              · refine ⟨rfl, Do2R.mono _ _ _ _ _ _ _ _ _, .inl rfl, fun a W hA hb hd => ⟨fun e => absurd rfl e, fun _ hw => ?_⟩⟩
                have h88 : a.tmps[88]?.getD undef = .pointer (some ⟨s2, 0, none⟩) := (eval_get a 88).trans (hd 1 (by simp) _ rfl)
                have h92 : a.tmps[92]?.getD undef = .agg #[.int .i64 q.kind, .int .u32 (q.ten : Int), .slice q.sec.A q.sec.n q.sec.c, .int .i64 q.quota, .int .i64 q.n, .int .u64 (q.hd : Int), .int .u64 (q.oth : Int), .int .u64 (q.sn : Int), .int .u8 (q.rt : Int), .slice q.oA q.oN q.oC, .slice q.key.A q.key.n q.key.c, .slice q.frm.A q.frm.n q.frm.c, .slice q.upto.A q.upto.n q.upto.c, .bool q.back] := (eval_get a 92).trans (hd 5 (by simp) _ rfl)
                have hcall := K.out.do2 hw (c := q) ((CQ.out.2).ab hw) L2.out I8.out (a1 := (stepP b T q).1) (T' := (stepP b T2 q).2) (by rw [OW.out.1])
                exact .inl ⟨by simp [Region.wanted], .inr ⟨10, #[.pointer (some ⟨s2, 0, none⟩), .agg #[.int .i64 q.kind, .int .u32 (q.ten : Int), .slice q.sec.A q.sec.n q.sec.c, .int .i64 q.quota, .int .i64 q.n, .int .u64 (q.hd : Int), .int .u64 (q.oth : Int), .int .u64 (q.sn : Int), .int .u8 (q.rt : Int), .slice q.oA q.oN q.oC, .slice q.key.A q.key.n q.key.c, .slice q.frm.A q.frm.n q.frm.c, .slice q.upto.A q.upto.n q.upto.c, .bool q.back]], by go_simp, hcall⟩⟩
              intro vs W9 hR hb
              have e87 : vs 87 = .agg #[.int .i64 (stepP b T q).1.err, .int .u64 ((stepP b T q).1.hd : Int), .int .u64 ((stepP b T q).1.sn : Int), .slice A1 n1 k1, .slice A2 n2' k2, .int .i64 (stepP b T q).1.cnt, .slice A3 n3' k3] := hR 0 _ rfl
              have e88 : vs 88 = .pointer (some ⟨s2, 0, none⟩) := hR 1 _ rfl
              have e89 : vs 89 = .slice (some x) n c := hR 2 _ rfl
              have e90 : vs 90 = .int .i64 (i : Int) := hR 3 _ rfl
              have e91 : vs 91 = .pointer (some (x.add (i * 14))) := hR 4 _ rfl
              have e92 : vs 92 = .agg #[.int .i64 q.kind, .int .u32 (q.ten : Int), .slice q.sec.A q.sec.n q.sec.c, .int .i64 q.quota, .int .i64 q.n, .int .u64 (q.hd : Int), .int .u64 (q.oth : Int), .int .u64 (q.sn : Int), .int .u8 (q.rt : Int), .slice q.oA q.oN q.oC, .slice q.key.A q.key.n q.key.c, .slice q.frm.A q.frm.n q.frm.c, .slice q.upto.A q.upto.n q.upto.c, .bool q.back] := hR 5 _ rfl
              obtain ⟨cs9, C9, O9, e93, an9, k9, st9⟩ : Do2R b w s1 s2 (stepP b T q).2 (stepP b T2 q).2 w6 O6 (stepP b T q).1 (vs 93) W9 := hR 6 _ rfl
              simp only [List.map_cons, List.map_nil, List.foldl_cons, List.foldl_nil, List.length_cons, List.length_nil, List.drop_succ_cons, List.drop_zero, Act.put, List.setIfInBounds_toArray, List.set_cons_zero, List.set_cons_succ, e87, e88, e89, e90, e91, e92, e93]
              have A9 := Lib.hid (AN.out.stp st9 (fun e => absurd (NP.out _ e) (by decide)))
              have SH := Lib.hid (step_sh (c := q) (T := T) (by have := L1.out.len; have := I8.out; omega) b)
              have HSM := Lib.hid (ansSame_yes W9 _ _ _ _ _ _ (stepP b T q).1 A9.out an9 SH.out.prs SH.out.lst BV.out)
              have K9 := Lib.hid k9
              clear hR hb e87 e88 e89 e90 e91 e92 e93 an9 k9 st9 A9
              go_wp2_with fail
              refine HSM.out.mono ?_
              rintro e w10 ⟨rfl, hb⟩
              have KX := Lib.hid (K9.out.ab hb)
              clear hb K9 HSM
              go_wp2_with fail
              go_roundw
              case rel => exact ⟨i + 1, KL.out, by go_num, _, _, _, KX.out, OW.out.2, step_lim L1.out QL.out b, step_lim L2.out QL.out b⟩
              case measure => simp [intOf]; have := KL.out; omega
            · obtain ⟨c0, c1, c2, c3, c4, c5, c6, c7, c8, c9, c10, c11, c12, c13⟩ := CQ.out.cz
              have HR := Lib.hid (step_oth RT.out ND.out b hk1 hk2 HTN.out)
              have f0 := HTN.out
              have f1 : ((tenOf q : Int) == (ten : Int)) = false := by simp; omega
              have f2 : (q.kind == 1) = false := by simp; omega
              have f3 : (q.kind == 2) = false := by simp; omega
              go_upto_region 7 with (fail)
              go_wp2_with fail
              go_roundw
              case rel => exact ⟨i + 1, KL.out, by go_num, _, _, T2, K.out, HR.out, step_lim L1.out QL.out b, L2.out.up (Nat.le_succ i)⟩
              case measure => simp [intOf]; have := KL.out; omega
    · obtain rfl : i = n := by omega
      clear hi hlt
      go_wp2_with fail
      refine (HK.out _).mono ?_
      rintro e w3 ⟨rfl, hb⟩
      have BB := Lib.hid (below_tr K.out.bl hb K.out.bl.size)
      clear hb
      go_wp2_with fail
      go_ret
      exact ⟨rfl, BB.out⟩
end
set_option maxRecDepth 100000 in
theorem apart_walk (z0 z1 : Int) (v : Value) (w : World) (h0 : (Lit.int .i64 z0).wf = true) (h1 : (Lit.int .u32 z1).wf = true) (hk : ∃ base, Value.okWide Tryz.prog w .any base 23 v) {H : Type} {enc : TypeId × Value → H} {d : DataW H} {p : List MemPlace} (hd : DataW.Trod enc Tryz.prog w 0 (fun _ => true) true 23 v d p) (hp : ∀ x ∈ p, x.block < w.heap.size) :
    Calls Tryz.prog 3 #[.int .i64 z0, .int .u32 z1, v] w fun e w' => e = .returned (.bool true) ∧ Below w.heap.size w w' := by
  obtain ⟨base, hk⟩ := hk
  obtain ⟨A, n, c, l, rfl, h⟩ := open_calls hk hd hp
  obtain ⟨t, rfl, ht⟩ := nat_intX (m := 4294967296) h1 rfl (by decide)
  by_cases hb : 8 ≤ z0
  · by_cases hb2 : z0 ≤ 4096
    · obtain ⟨b, rfl⟩ : ∃ b : Nat, z0 = (b : Int) := ⟨z0.toNat, by omega⟩
      by_cases hn : n ≤ 150
      · exact apart_ok b t (by omega) (by omega) hn ht h
      · exact apart_many b t (by omega) (by omega) (by omega)
    · exact apart_bad z0 t (.inr (by omega))
  · exact apart_bad z0 t (.inl (by omega))
end Go.Proofs.YtnnjmelibmiimaaGreat
namespace Go.Proofs.YtnnjmelibmiimaaGreat
open Go.ChangeShapes Go.WideShapes Go.ChangeAt Go.RowKit

theorem make_of {P : Program} {l : List Char} (h : P.initOrder = String.ofList l) (hw : (match behindMainWord (wordsSigns l) with | c :: _ => !(c == "gc".toList || c == "spec".toList) && c == "cut".toList | [] => false) = true) : P.make = some .cut := by
  unfold Program.make
  rw [h, String.toList_ofList]
  revert hw
  generalize behindMainWord (wordsSigns l) = W
  cases W with
  | nil => intro hw; cases hw
  | cons c r =>
    intro hw
    simp only [Bool.and_eq_true, Bool.not_eq_true'] at hw
    simp only [hw.1, hw.2, Bool.true_or, if_true]
    rfl
theorem lifts_of {P : Program} {l : List Char} (h : P.initOrder = String.ofList l) (hw : (!((behindMainWord (wordsSigns l)).head? == some "carried".toList) && (stripLifts liftWords (behindMainWord (wordsSigns l))).1.isEmpty) = true) : P.liftsFinal = false := by
  unfold Program.liftsFinal Program.headLifts
  rw [h, String.toList_ofList]
  revert hw
  generalize behindMainWord (wordsSigns l) = W
  intro hw
  simp only [Bool.and_eq_true, Bool.not_eq_true', List.isEmpty_iff] at hw
  simp only [hw.1, hw.2, Bool.false_and, Bool.false_or]
  split <;> rfl
theorem enter_of {P : Program} {l : List Char} (h : P.initOrder = String.ofList l) (hw : (match behindMainWord (wordsSigns l) with | c :: rest => ((stripLifts liftWords (c :: rest)).2.head? == some "cut".toList && (stripLifts liftWords (c :: rest)).1.isEmpty) | [] => false) = true)
    (hl : P.laysLater = false) (hr : P.bearsReflect = false) (hd : P.doorRows = []) : P.mayEnter = true := by
  unfold Program.mayEnter Program.doorFits
  rw [h, String.toList_ofList]
  revert hw
  generalize behindMainWord (wordsSigns l) = W
  cases W with
  | nil => intro hw; cases hw
  | cons c r =>
    intro hw
    simp only [Bool.and_eq_true, List.isEmpty_iff] at hw
    simp only [hw.1, hw.2, hl, hr, hd]
    simp
set_option maxRecDepth 1000000 in
theorem J.make : Tryz.checked.prog.make = some .cut := make_of rfl (by kernel_rfl)
set_option maxRecDepth 1000000 in
theorem J.lifts : Tryz.checked.prog.liftsFinal = false := lifts_of rfl (by kernel_rfl)
set_option maxRecDepth 1000000 in
theorem J.enter : Tryz.checked.prog.mayEnter = true := enter_of rfl (by kernel_rfl) (by kernel_rfl) (by kernel_rfl) (by kernel_rfl)
theorem joined_of {P : Program} {f : FuncId} {fn : Func} {s : ChangeSpec} {c : OpenClaim} (h1 : P.mayEnter = true) (h2 : P.liftsFinal = false) (h3 : P.make = some .cut) (h4 : c.lifted = false) (h5 : c.make = .cut)
    (h : (c.wf (OpenSpec.ofChange s) && laidOutB P && mapsRowed P &&
      fn.params.all (P.readableRec ·) && namedTie P c.named s.vars &&
      (c.stops == []) && (P.stops == []) && (c.knobs == []) && (P.stopKnobs == []) &&
      (c.inPlace == P.inPlace f) && (c.unfollowed == P.unfollowed f) && (c.recurses == P.recurses f) && (c.named == P.varsNamed f) &&
      (c.maps == (fn.params.toList ++ s.plain.varTypes P).any (P.mapsRec ·)) && (c.ifaces == (fn.params.toList ++ s.plain.varTypes P).any (P.ifacesRec ·)) && (c.mapsOut == P.mapsAmong fn.resultTypes.toList) &&
      (c.loops == (fn.params.toList ++ s.plain.varTypes P).any (P.loopsFrom ·)) && (c.wideKeys == (fn.params.toList ++ s.plain.varTypes P ++ fn.resultTypes.toList).any (P.wideKeysFrom ·)) &&
      s.vars.all (P.varReadable ·) && fn.resultTypes.all (fun t => P.readableRec t && decide (t < P.types.size)) && (c.ifacesOut == fn.resultTypes.toList.any (P.ifacesRec ·)) && (c.loopsOut == fn.resultTypes.toList.any (P.loopsFrom ·)) && (c.plainKeys == P.plainKeys) && c.shortTexts.isNone && P.stopsHeard) = true)
    (k : ((c.kinds == (if c.domain.isEmpty then [] else fn.params.toList.map fun t => match P.underlying t with | some (.int k) => some k | _ => none)) && (c.pinned == c.pinnedBy) &&
      (c.veiled == (fn.params.toList ++ s.plain.varTypes P ++ fn.resultTypes.toList).any (P.veiledRec ·)) && c.veiledFits P fn.params.toList (fn.params.toList ++ s.plain.varTypes P ++ fn.resultTypes.toList)) = true) : joinedFacts P f fn s c = true := by
  unfold joinedFacts
  rw [h, h1, h2, h3, h4, h5]
  simp only [Bool.true_and]
  simp only [Bool.and_eq_true] at k
  simp only [Bool.and_eq_true, k, and_true]
  exact ⟨⟨rfl, by decide⟩, k.1.1.1⟩
end Go.Proofs.YtnnjmelibmiimaaGreat
