/-
  IDEAL: a call as it comes in; which tenant; holder, attach: the walks.
-/
import Derived.Test.YtnnjmelibmiimaaGreatBdd
import Derived.Deep.QuietTactic
import Derived.BigQuiet
import Derived.Sort.WalkA
import Derived.Lib.Walk
import Derived.WalkKit
import Derived.Deep.Draws
import Derived.Test.YtnnjmelibmiimaaGreatBda
import Derived.Sort.WalkB12
import Derived.Sort.WalkD1
import Derived.Sort.WalkD2
import Derived.Deep.RegionWith
import Derived.Sort.Walk7a
import Derived.Sort.Walk7
import Derived.Ground.So_math_bits_Len64
import Derived.Deep.Light
import Derived.Sort.Walk11
import Derived.Sort.WalkB2
import Derived.Sort.WalkB3
import Derived.Sort.WalkC
import Derived.Sort.WalkC4
import Derived.Sort.WalkA6
import Derived.Sort.Walk13
import Derived.Sort.LotD6
import Derived.Sort.WalkA14
import Derived.Sort.LotD7
import Derived.Sort.AssemblyPlain
import Derived.Test.YtnnjmelibmiimaaGreatBdc
import Derived.Test.YtnnjmelibmiimaaGreatRows
import Derived.WalkSpells
import Derived.WalkLawsBesides
import Derived.Lib.Hide
import Derived.Lib.SlBytesConst
import Derived.Deep.Slices
namespace Go.Proofs.YtnnjmelibmiimaaGreat
open Go.RowKit
set_option linter.unusedVariables false
set_option linter.unusedSimpArgs false

/-- bytes as they come in -/
structure SlA where
  A : Option Addr
  n : Nat
  c : Nat
  l : List Nat
def SlA.v (x : SlA) : Value := .slice x.A x.n x.c
def SlA.B (w : World) (x : SlA) : Prop := IsB w x.A x.n x.c x.l
/-- an op of a batch -/
structure OpP where
  k : SlA
  v : SlA
  d : Bool
/-- a call -/
structure CallP where
  kind : Int
  ten : Nat
  sec : SlA
  quota : Int
  n : Int
  hd : Nat
  oth : Nat
  sn : Nat
  rt : Nat
  oA : Option Addr
  oN : Nat
  oC : Nat
  ops : List OpP
  key : SlA
  frm : SlA
  upto : SlA
  back : Bool
def CallP.cs (c : CallP) : Array Value := #[.int .i64 c.kind, .int .u32 (c.ten : Int), .slice c.sec.A c.sec.n c.sec.c, .int .i64 c.quota, .int .i64 c.n, .int .u64 (c.hd : Int), .int .u64 (c.oth : Int), .int .u64 (c.sn : Int), .int .u8 (c.rt : Int), .slice c.oA c.oN c.oC, .slice c.key.A c.key.n c.key.c, .slice c.frm.A c.frm.n c.frm.c, .slice c.upto.A c.upto.n c.upto.c, .bool c.back]
structure CallP.Ok (c : CallP) : Prop where
  kind : ckOk c.kind
  ten : c.ten < 4294967296
  hd : c.hd < 18446744073709551616
  oth : c.oth < 18446744073709551616
  sn : c.sn < 18446744073709551616
  rt : c.rt < 256
/-- which tenant -/
def fnd (bs : List (Nat × TnP)) (n : Nat) : Option (Nat × TnP) := bs.find? fun x => decide (x.2.n = n)
theorem look_fnd (n : Nat) : ∀ bs : List (Nat × TnP), lookL n (bs.map fun x => (x.2.n, ptrV x.1)) = (fnd bs n).map fun x => ptrV x.1
  | [] => rfl
  | p :: r => by
    have ih := look_fnd n r
    unfold lookL fnd at ih ⊢
    rw [List.map_cons]
    by_cases e : p.2.n = n
    · rw [List.find?_cons_of_pos (by simpa using e), List.find?_cons_of_pos (by simpa using e)]; rfl
    · rw [List.find?_cons_of_neg (by simpa using e), List.find?_cons_of_neg (by simpa using e)]; exact ih
theorem fnd_mem {bs : List (Nat × TnP)} {n : Nat} {x : Nat × TnP} (h : fnd bs n = some x) : x ∈ bs ∧ x.2.n = n := ⟨List.mem_of_find?_eq_some h, by simpa using List.find?_some h⟩
theorem zero_tn {w : World} : (zeroValue 76).run Tryz.prog w = .ok (.pointer none) w := by kernel_rfl
theorem map_look {w : World} {m : Nat} {bs : List (Nat × TnP)} (h : MapB u32V u32Ok w m (bs.map fun x => (x.2.n, ptrV x.1))) {n : Nat} (hn : n < 4294967296) :
    (Instr.lookup 62 (.map (some m)) (.int .u32 (n : Int)) false).run Tryz.prog w = .ok (.pointer ((fnd bs n).map fun x => ⟨x.1, 0, none⟩)) w := by
  cases hl : fnd bs n with
  | none =>
    have := h.look_none u32_K Tryz.underlying62 (x := n) hn (by rw [look_fnd, hl]; rfl) zero_tn false
    simpa [u32V] using this
  | some x =>
    have := h.look_some u32_K Tryz.underlying62 (x := n) hn (v := ptrV x.1) (by rw [look_fnd, hl]; rfl) false
    simpa [u32V, ptrV] using this
theorem bel_drewN {B : Nat} {a w : World} (h : Below B a w) (n : Nat) : Below B a (w.drewN n) := ⟨h.os, h.tape, h.output, h.size, h.block⟩
section
variable {w : World} {O : Tg} {s blocks m : Nat} {T : List TnP} {bs : List (Nat × TnP)} {c : CallP}
theorem u64_mask32 (n : Nat) (hn : n < 18446744073709551616) : bits .and .u64 (n : Int) 4294967295 = ((n % 4294967296 : Nat) : Int) := by
  show IntKind.u64.wrap ((BitVec.ofInt 64 (n : Int) &&& BitVec.ofInt 64 (4294967295 : Int)).toNat : Int) = _
  have h1 : (BitVec.ofInt 64 (n : Int)).toNat = n := by rw [BitVec.ofInt_natCast, BitVec.toNat_ofNat, Nat.mod_eq_of_lt (by omega)]
  have h2 : (BitVec.ofInt 64 (4294967295 : Int)).toNat = 2 ^ 32 - 1 := by decide
  rw [BitVec.toNat_and, h1, h2, Nat.and_two_pow_sub_one_eq_mod]
  exact wrap_u64' (n := n % 2 ^ 32) (by omega) _ (Int.natCast_nonneg _) (Int.le_refl _)
set_option maxRecDepth 100000 in
theorem holder_some (nd : Nat) (x : Nat × TnP) (cb : Nat) (mo : Option Nat) (sm nb : Nat) (es : List (Nat × Value)) (h : IdM w O s blocks T m bs) (hc : c.Ok) (hf : fnd bs (c.hd / 4294967296) = some x) (hx : TnM w O s x.1 x.2 cb mo sm nb es) :
    Calls Tryz.prog 78 #[.pointer (some ⟨s, 0, none⟩), .agg c.cs, .int .u8 (nd : Int)] w fun e w' => e = .returned (.tuple #[.pointer (some ⟨x.1, 0, none⟩), .int .u64 ((c.hd % 4294967296 : Nat) : Int), .int .i64 (checkH x.2.A (c.hd % 4294967296) nd : Int)]) ∧ Below w.heap.size w w' := by
  have ha : Below w.heap.size w (w.alloc (.cells c.cs 36)) := (Below.refl _ _).alloc (Nat.le_refl _) _
  obtain ⟨q, hq⟩ : ∃ q, c.hd / 4294967296 = q := ⟨_, rfl⟩
  obtain ⟨r, hr⟩ : ∃ r, c.hd % 4294967296 = r := ⟨_, rfl⟩
  have hq32 : q < 4294967296 := by have := hc.hd; omega
  rw [hq] at hf
  have hlk := fun k : Nat => map_look (w := (w.alloc (.cells c.cs 36)).drewN k) ((h.map.ab ha).same rfl) (n := q) hq32
  simp only [hf, Option.map_some] at hlk
  have hdv : (c.hd : Int) / 4294967296 = (q : Int) := by omega
  have hd0 : (0 : Int) ≤ (q : Int) := by omega
  have hd1 : (q : Int) < 4294967296 := by omega
  have hmk := u64_mask32 c.hd hc.hd
  rw [hr] at hmk ⊢
  have c1 := (h.box.ab ha).cell (k := 1) rfl
  have c5 := (CbB.new w 36 c.cs).cell (k := 5) rfl
  have d3 := (hx.box.ab ha).cell (k := 3) rfl
  have HC := Lib.hid fun k : Nat => checkA_any (w := (w.alloc (.cells c.cs 36)).drewN k) r nd (hx.caps.ab (bel_drewN ha k)) (show u64Ok r from by unfold u64Ok; omega)
  have HA := Lib.hid ha
  clear h ha hx hf hq hr hq32 hc
  unfold CallP.cs at *
  go_enter Tryz.func78, Tryz.ntmps78
  go_wp2_with fail
  go_quiet (fail)
  go_wp2_with fail
  refine (HC.out _).mono ?_
  rintro e w1 ⟨rfl, hb⟩
  have B1 := Lib.hid (below_tr (bel_drewN HA.out _) hb (bel_drewN HA.out _).size)
  clear hb HC HA hlk
  go_wp2_with fail
  go_ret3
  exact ⟨rfl, B1.out⟩
/-- the map that a call asks -/
def seenP (t : TnP) (sn : Nat) : Option Bk2 := if sn = 0 then some t.now else match t.sn[sn - 1]? with | some (S, false) => some S | _ => none
theorem zero_bok {w : World} : (zeroValue 78).run Tryz.prog w = .ok (.map none) w := by kernel_rfl
theorem seen_look {w : World} {t : TnP} {b cb sm nb : Nat} {mo : Option Nat} {es : List (Nat × Value)} (hx : TnM w O s b t cb mo sm nb es) (sn : Nat) (h0 : sn ≠ 0) (h64 : sn < 18446744073709551616) :
    (seenP t sn = none ∧ ∀ W, W.heap[sm]? = w.heap[sm]? → (Instr.lookup 80 (.map (some sm)) (.int .u64 (sn : Int)) true).run Tryz.prog W = .ok (.tuple #[.map none, .bool false]) W) ∨
    ∃ S k, seenP t sn = some S ∧ BokB w O k S ∧ O k = none ∧ ∀ W, W.heap[sm]? = w.heap[sm]? → (Instr.lookup 80 (.map (some sm)) (.int .u64 (sn : Int)) true).run Tryz.prog W = .ok (.tuple #[.map (some k), .bool true]) W := by
  cases hl : lookL sn es with
  | none =>
    refine .inl ⟨?_, fun W hW => ?_⟩
    · unfold seenP
      rw [if_neg h0]
      cases hs : t.sn[sn - 1]? with
      | none => rfl
      | some p =>
        obtain ⟨S, g⟩ := p
        cases g with
        | true => rfl
        | false =>
          have := hx.sns.bwd (sn - 1) S hs
          rw [show sn - 1 + 1 = sn by omega, hl] at this
          cases this
    · have := (hx.snm.same hW).look_none u64_K Tryz.underlying80 (x := sn) h64 hl zero_bok true
      simpa [u64V] using this
  | some v =>
    obtain ⟨i, S, nb', h1, h2, h3, h4, h5⟩ := hx.sns.fwd _ (lookL_mem hl)
    simp only at h1 h3
    subst h3
    refine .inr ⟨S, nb', ?_, h4, h5, fun W hW => ?_⟩
    · unfold seenP
      rw [if_neg h0, show sn - 1 = i by omega, h2]
    · have := (hx.snm.same hW).look_some u64_K Tryz.underlying80 (x := sn) h64 hl true
      simpa [u64V] using this
/-- what seen answers -/
def SeenR (w : World) (O : Tg) (t : TnP) (sn : Nat) (e : Ending) : Prop := (seenP t sn = none ∧ e = .returned (.tuple #[.map none, .int .i64 262])) ∨ ∃ S k, seenP t sn = some S ∧ BokB w O k S ∧ O k = none ∧ e = .returned (.tuple #[.map (some k), .int .i64 0])
set_option maxRecDepth 100000 in
theorem seen_any {b cb sm nb : Nat} {mo : Option Nat} {t : TnP} {es : List (Nat × Value)} (hc : c.Ok) (hx : TnM w O s b t cb mo sm nb es) :
    Calls Tryz.prog 88 #[.pointer (some ⟨b, 0, none⟩), .agg c.cs] w fun e w' => SeenR w O t c.sn e ∧ Below w.heap.size w w' := by
  have ha : Below w.heap.size w (w.alloc (.cells c.cs 36)) := (Below.refl _ _).alloc (Nat.le_refl _) _
  have c7 := (CbB.new w 36 c.cs).cell (k := 7) rfl
  have d2 := (hx.box.ab ha).cell (k := 2) rfl
  have d4 := (hx.box.ab ha).cell (k := 4) rfl
  have HA := Lib.hid ha
  by_cases h0 : c.sn = 0
  · have hz : ((c.sn : Int) == 0) = true := by rw [h0]; rfl
    have HR : Hid (SeenR w O t c.sn (.returned (.tuple #[.map (some nb), .int .i64 0]))) := Lib.hid (.inr ⟨t.now, nb, by unfold seenP; rw [if_pos h0], hx.now, hx.nowO, rfl⟩)
    clear ha hx hc h0
    unfold CallP.cs at *
    go_enter Tryz.func88, Tryz.ntmps88
    go_wp2_with fail
    go_ret2
    exact ⟨HR.out, HA.out⟩
  · have hz : ((c.sn : Int) == 0) = false := by simp; omega
    have hsm := (ha.block sm hx.snm.lt)
    rcases seen_look hx c.sn h0 hc.sn with ⟨h1, h2⟩ | ⟨S, k, h1, h2, h3, h4⟩
    · have HR : Hid (SeenR w O t c.sn (.returned (.tuple #[.map none, .int .i64 262]))) := Lib.hid (.inl ⟨h1, rfl⟩)
      have hlk := fun j : Nat => h2 ((w.alloc (.cells c.cs 36)).drewN j) hsm
      clear ha hx hc h1 h2 hsm
      unfold CallP.cs at *
      go_enter Tryz.func88, Tryz.ntmps88
      go_wp2_with fail
      go_quiet (fail)
      go_wp2_with fail
      go_ret2
      exact ⟨HR.out, bel_drewN HA.out _⟩
    · have HR : Hid (SeenR w O t c.sn (.returned (.tuple #[.map (some k), .int .i64 0]))) := Lib.hid (.inr ⟨S, k, h1, h2, h3, rfl⟩)
      have hlk := fun j : Nat => h4 ((w.alloc (.cells c.cs 36)).drewN j) hsm
      clear ha hx hc h1 h2 h3 h4 hsm
      unfold CallP.cs at *
      go_enter Tryz.func88, Tryz.ntmps88
      go_wp2_with fail
      go_quiet (fail)
      go_wp2_with fail
      go_ret2
      exact ⟨HR.out, bel_drewN HA.out _⟩
end
end Go.Proofs.YtnnjmelibmiimaaGreat
namespace Go.Proofs.YtnnjmelibmiimaaGreat.U32
open Go.RowKit Go.Sort
set_option linter.unusedVariables false

def nvs (l : List Nat) : List Value := l.map fun (n : Nat) => Value.int .u32 (n : Int)
/-- numbers, one appended behind the other -/
def NsB (w : World) (B : Nat) (v : Value) (l : List Nat) : Prop := w.ownsRow B 22 1 v l.length (nvs l)
theorem NsB.nil (w : World) (B : Nat) : NsB w B (.slice none 0 0) [] := World.ownsRow_nil _ _ _ _
theorem NsB.kept {w w' : World} {B : Nat} {v : Value} {l : List Nat} {row : Option Nat} (h : NsB w B v l) (hg : w.grownBy w' row) (hne : v.ownBlock = none ∨ v.ownBlock ≠ row) : NsB w' B v l := World.ownsRow.kept h hg hne
theorem NsB.ab {w w' : World} {B : Nat} {v : Value} {l : List Nat} (h : NsB w B v l) (hb : Below w.heap.size w w') : NsB w' B v l := World.ownsRow.kept (row := none) h (grown_of hb none) (by cases hv : v.ownBlock <;> simp)
theorem NsB.lt {w : World} {B g : Nat} {v : Value} {l : List Nat} (h : NsB w B v l) (hg : v.ownBlock = some g) : g < w.heap.size := by
  rcases h.2 with ⟨rfl, _⟩ | ⟨g', cap, cur, rfl, _, hb, _⟩
  · cases hg
  · cases hg
    exact (Array.getElem?_eq_some_iff.1 hb).1
theorem NsB.form {w : World} {B : Nat} {v : Value} {l : List Nat} (h : NsB w B v l) : ∃ A c, v = .slice A l.length c ∧ ∀ i (hi : i < l.length), ∃ g, A = some ⟨g, 0, none⟩ ∧ w.cell? ⟨g, i, none⟩ = some (.int .u32 ((l[i] : Nat) : Int)) := by
  have h0 := h
  rcases h.2 with ⟨rfl, h1⟩ | ⟨g, cap, cur, rfl, _, hb, _⟩
  · exact ⟨none, 0, by rw [h1], fun i hi => by omega⟩
  · refine ⟨_, _, rfl, fun i hi => ⟨g, rfl, ?_⟩⟩
    have h2 := World.ownsRow.cellAt h0 i (by omega)
    rw [h2]
    simp [nvs, hi]
end Go.Proofs.YtnnjmelibmiimaaGreat.U32
namespace Go.Proofs.YtnnjmelibmiimaaGreat
open Go.RowKit
set_option linter.unusedVariables false
set_option linter.unusedSimpArgs false

theorem cb_neX {w : World} {g b : Nat} {T T' : TypeId} {cs cs' : Array Value} (h : CbB w g T cs) (h' : CbB w b T' cs') (hT : T ≠ T') : g ≠ b := fun e => by
  unfold CbB at h h'
  rw [e, h'] at h
  injection h with h
  injection h with _ h
  exact hT h.symm
theorem strOf_toListI (l : List Nat) : (strOf l).toList = l.map UInt8.ofNat := ByteArray.toList_mk _
theorem str_eqI {x y : List Nat} (hx : Byt x) (hy : Byt y) : ((strOf x).toList == (strOf y).toList) = decide (x = y) := by
  rw [strOf_toListI, strOf_toListI]
  by_cases h : x = y
  · rw [decide_eq_true h, h]; simp
  · rw [decide_eq_false h, beq_eq_false_iff_ne]
    exact fun e => h (k8_inj hx hy e)
theorem CbB.newI {w : World} {n : Nat} {T : TypeId} {cs : Array Value} (h : n = w.heap.size) : CbB (w.alloc (.cells cs T)) n T cs := by subst h; exact CbB.new w T cs
/-- an answer, plainly -/
structure AnsP where
  err : Int
  hd : Nat
  sn : Nat
  val : List Nat
  prs : Bk2
  cnt : Int
  lst : List Nat
def errA (e : Int) : AnsP := ⟨e, 0, 0, [], [], 0, []⟩
def hdA (h : Nat) : AnsP := ⟨0, h, 0, [], [], 0, []⟩
/-- pairs that the call has made: keys and values, bytes of the call's own -/
def PrB (w : World) (C : Nat) (O : Tg) (v : Value) (l : Bk2) : Prop :=
  ∃ vs : List (Value × Value), w.ownsRow C 95 2 v l.length (vs.flatMap fun p => [p.1, p.2]) ∧ (∀ g, v.ownBlock = some g → O g = some (0, 0)) ∧ vs.length = l.length ∧
    ∀ (i : Nat) (p : Value × Value) (q : Ky × List Nat), vs[i]? = some p → l[i]? = some q → (∃ k, OwB w C p.1 k ∧ k8 k = q.1) ∧ OwB w C p.2 q.2 ∧ (∀ g, p.1.ownBlock = some g → O g = some (0, 0)) ∧ (∀ g, p.2.ownBlock = some g → O g = some (0, 0))
structure AnsB (w : World) (C : Nat) (O : Tg) (cs : Array Value) (a : AnsP) : Prop where
  sh : ∃ v p l, cs = #[.int .i64 a.err, .int .u64 (a.hd : Int), .int .u64 (a.sn : Int), v, p, .int .i64 a.cnt, l] ∧ OwB w C v a.val ∧ (∀ g, v.ownBlock = some g → O g = some (0, 0)) ∧ PrB w C O p a.prs ∧ U32.NsB w C l a.lst ∧ (∀ g, l.ownBlock = some g → O g = some (0, 0))
theorem AnsB.flat (w : World) (C : Nat) (O : Tg) (e : Int) (h sn : Nat) (n : Int) : AnsB w C O #[.int .i64 e, .int .u64 (h : Int), .int .u64 (sn : Int), .slice none 0 0, .slice none 0 0, .int .i64 n, .slice none 0 0] ⟨e, h, sn, [], [], n, []⟩ :=
  ⟨_, _, _, rfl, OwB.nil _ _, fun g hg => (by cases hg), ⟨[], World.ownsRow_nil _ _ _ _, fun g hg => (by cases hg), rfl, fun i p q hi => (by simp at hi)⟩, U32.NsB.nil _ _, fun g hg => (by cases hg)⟩
/-- behind a call of a store -/
def DoR (s blocks : Nat) (w : World) (O : Tg) (a : AnsP) (T' : List TnP) (e : Ending) (w' : World) : Prop :=
  ∃ cs O', e = .returned (.agg cs) ∧ AnsB w' w.heap.size O' cs a ∧ IdB w' O' s blocks T' ∧ Stp (fun τ => τ.1 = s) w O w' O'
/-- one tenant is another one -/
def updT (n : Nat) (t' : TnP) (T : List TnP) : List TnP := T.map fun t => if t.n = n then t' else t
section
variable {w w1 : World} {O O1 : Tg} {s blocks m n : Nat} {T : List TnP} {bs : List (Nat × TnP)}
theorem IdM.nodup (h : IdM w O s blocks T m bs) : (bs.map fun x => x.2.n).Nodup := by
  have := h.map.nodup u32_K
  rwa [List.map_map] at this
theorem nodup_one : ∀ {l : List (Nat × TnP)} {x y : Nat × TnP}, (l.map fun x => x.2.n).Nodup → x ∈ l → y ∈ l → x.2.n = y.2.n → x = y
  | p :: r, x, y, hn, hx, hy, e => by
    rw [List.map_cons, List.nodup_cons] at hn
    rcases List.mem_cons.1 hx with e1 | hx2
    · rcases List.mem_cons.1 hy with e2 | hy2
      · rw [e1, e2]
      · exact (hn.1 (List.mem_map.2 ⟨y, hy2, by rw [← e, e1]⟩)).elim
    · rcases List.mem_cons.1 hy with e2 | hy2
      · exact (hn.1 (List.mem_map.2 ⟨x, hx2, by rw [e, e2]⟩)).elim
      · exact nodup_one hn.2 hx2 hy2 e
theorem IdM.upd (h : IdM w O s blocks T m bs) {x : Nat × TnP} (hf : fnd bs n = some x) (k : Stp (fun τ => τ = (s, n)) w O w1 O1) {t' : TnP} (hn : t'.n = n) (hok : TnOk t') (ht : TnB w1 O1 s x.1 t') :
    IdM w1 O1 s blocks (updT n t' T) m (bs.map fun y => if y.2.n = n then (y.1, t') else y) := by
  have h1 : 1 ≤ n := hn ▸ hok.n1
  have n0 : ¬ (s, 0) = (s, n) := fun e => by injection e with _ e; omega
  obtain ⟨hm, hxn⟩ := fnd_mem hf
  refine ⟨(k.ot h.box.lt h.os n0).1.trans h.box, ?_, ?_, fun y hy => ?_, fun y hy => ?_, (k.ot h.box.lt h.os n0).2, (k.ot h.map.lt h.om n0).2, h.pos⟩
  · have := h.map.same (k.ot h.map.lt h.om n0).1
    have e : (bs.map fun y => if y.2.n = n then (y.1, t') else y).map (fun x => (x.2.n, ptrV x.1)) = bs.map fun x => (x.2.n, ptrV x.1) := by
      rw [List.map_map]
      refine List.map_congr_left fun y _ => ?_
      simp only [Function.comp_apply]
      by_cases e : y.2.n = n
      · rw [if_pos e, e]; simp [hn]
      · rw [if_neg e]
    rw [e]
    exact this
  · have e : (bs.map fun y => if y.2.n = n then (y.1, t') else y).map (·.2) = updT n t' (bs.map (·.2)) := by
      unfold updT
      rw [List.map_map, List.map_map]
      refine List.map_congr_left fun y _ => ?_
      simp only [Function.comp_apply]
      by_cases e : y.2.n = n
      · rw [if_pos e, if_pos e]
      · rw [if_neg e, if_neg e]
    rw [e]
    exact h.prm.map _
  · obtain ⟨z, hz, rfl⟩ := List.mem_map.1 hy
    by_cases e : z.2.n = n
    · rw [if_pos e]
      obtain rfl : z = x := nodup_one h.nodup hz hm (e.trans hxn.symm)
      exact ht
    · rw [if_neg e]
      exact (h.all z hz).stp k (fun e2 => e (by injection e2))
  · obtain ⟨z, hz, rfl⟩ := List.mem_map.1 hy
    by_cases e : z.2.n = n
    · rw [if_pos e]; exact hok
    · rw [if_neg e]; exact h.ok z hz
end
/-- tags behind a call on caps: a new map is the tenant's -/
def capTg (O : Tg) (N s n : Nat) (mo' : Option Nat) : Tg := fun k => if N ≤ k ∧ mo' = some k then some (s, n) else O k
theorem caps_step {w w1 : World} {O : Tg} {s b n : Nat} {t : TnP} {c sm nb : Nat} {mo : Option Nat} {es : List (Nat × Value)} (h : TnM w O s b t c mo sm nb es) (hn : t.n = n) {v : Value} {A' : HL} {e : Ending} (hr : CapR 0 c mo w v A' e w1) :
    e = .returned v ∧ ∃ mo' O1, Stp (fun τ => τ = (s, n)) w O w1 O1 ∧ TnM w1 O1 s b ⟨t.n, t.sec, t.q, t.now, A', t.sn, t.tu⟩ c mo' sm nb es := by
  obtain ⟨he, mo', h1, h2, h3⟩ := hr
  subst hn
  have hl := h.caps.lt
  have hcF : ∀ k, capF c mo k → O k = some (s, t.n) := fun k hk => by
    rcases hk with rfl | hk
    · exact h.tc
    · exact h.tm k hk
  have st : Stp (fun τ => τ = (s, t.n)) w O w1 (capTg O w.heap.size s t.n mo') := ⟨h2.imp fun k hk => ⟨_, hcF k hk, rfl⟩, fun k hk => by unfold capTg; rw [if_neg (by omega)]⟩
  have bc : b ≠ c := by
    obtain ⟨l, h4, _⟩ := h.caps.st
    exact cb_neX h.box h4.box (by decide)
  have bm : ∀ k, mo = some k → b ≠ k ∧ sm ≠ k := fun k hk => by
    obtain ⟨l, h4, _⟩ := h.caps.st
    refine ⟨fun e => ?_, fun e => h.ne (by rw [hk, e])⟩
    obtain ⟨es', cl, h5, _⟩ := (h4.map k hk).2
    have hb := h.box
    unfold CbB at hb
    rw [e, h5] at hb
    cases hb
  have sc : sm ≠ c := fun e => by
    obtain ⟨l, h4, _⟩ := h.caps.st
    obtain ⟨es', cl, h5, _⟩ := h.snm
    have hb := h4.box
    unfold CbB at hb
    rw [← e, h5] at hb
    cases hb
  have nF : ∀ k, k ≠ c → (∀ q, mo = some q → k ≠ q) → ¬ capF c mo k := fun k h1 h2 hk => by
    rcases hk with hk | hk
    · exact h1 hk
    · exact h2 k hk rfl
  obtain ⟨es0, l0, hnb, _⟩ := id h.now
  refine ⟨he, mo', _, st, ⟨(h2.block b h.box.lt (nF b bc fun q hq => (bm q hq).1)).trans h.box, h.now.stp h.nowO st, (st.im hnb.lt h.nowO).2, h1,
    h.snm.same (h2.block sm h.snm.lt (nF sm sc fun q hq => (bm q hq).2)), h.sns.stp st, (st.tg b h.box.lt).trans h.tb, (st.tg c hl.1).trans h.tc, fun q hq => ?_, (st.tg sm h.snm.lt).trans h.ts, fun e => ?_⟩⟩
  · rcases h3 with rfl | ⟨q', hq', hge⟩
    · exact (st.tg q (hl.2 q hq)).trans (h.tm q hq)
    · unfold capTg
      rw [hq'] at hq
      injection hq with hq
      subst hq
      rw [if_pos ⟨hge, hq'⟩]
  · rcases h3 with rfl | ⟨q', hq', hge⟩
    · exact h.ne e
    · rw [hq'] at e
      injection e with e
      subst e
      exact absurd h.snm.lt (Nat.not_lt.2 hge)
/-- tags ahead of a call's own boxes: they are nobody's -/
def cutTg (O : Tg) (N : Nat) : Tg := fun k => if k < N then O k else some (0, 0)
section
variable {P : Nat × Nat → Prop} {w w1 w2 : World} {O O1 : Tg}
theorem Stp.cut (hb : Below w.heap.size w w1) (P : Nat × Nat → Prop) : Stp P w O w1 (cutTg O w.heap.size) := Stp.of hb P fun k hk => by unfold cutTg; rw [if_pos hk]
theorem Stp.fresh (h : Stp P w O w1 O1) {g : Nat} (k : Fr w1 w2 (fun q => q = g)) (hg : w.heap.size ≤ g) : Stp P w O w2 O1 :=
  ⟨⟨k.os.trans h.fr.os, k.tape.trans h.fr.tape, k.output.trans h.fr.output, Nat.le_trans h.size k.size, fun i hi hn => (k.block i (Nat.lt_of_lt_of_le hi h.size) (by omega)).trans (h.fr.block i hi hn)⟩, h.tg⟩
theorem Stp.box {g : Nat} (k : Fr w1 w2 (fun q => q = g)) (hg : O1 g = some (0, 0)) : Stp (fun τ => τ = (0, 0)) w1 O1 w2 O1 := ⟨k.imp fun q hq => ⟨_, hq ▸ hg, rfl⟩, fun _ _ => rfl⟩
theorem Stp.ab (h : Stp P w O w1 O1) (hb : Below w1.heap.size w1 w2) : Stp P w O w2 O1 := h.tr (Stp.of hb P fun _ _ => rfl)
theorem cutTg_at {N k : Nat} (h : N ≤ k) : cutTg O N k = some (0, 0) := by unfold cutTg; rw [if_neg (by omega)]
end
/-- an answer without memory -/
theorem DoR.flat {s blocks : Nat} {w w' : World} {O O' : Tg} {T' : List TnP} (e : Int) (h sn : Nat) (n : Int) (hi : IdB w' O' s blocks T') (hs : Stp (fun τ => τ.1 = s) w O w' O') :
    DoR s blocks w O ⟨e, h, sn, [], [], n, []⟩ T' (.returned (.agg #[.int .i64 e, .int .u64 (h : Int), .int .u64 (sn : Int), .slice none 0 0, .slice none 0 0, .int .i64 n, .slice none 0 0])) w' :=
  ⟨_, O', rfl, AnsB.flat _ _ _ _ _ _ _, hi, hs⟩
end Go.Proofs.YtnnjmelibmiimaaGreat
namespace Go.Proofs.YtnnjmelibmiimaaGreat
open Go.RowKit
set_option linter.unusedVariables false
set_option linter.unusedSimpArgs false

section
variable {w : World} {O : Tg} {s blocks m : Nat} {T : List TnP} {bs : List (Nat × TnP)} {c : CallP}
theorem fr_rowX (w : World) (g : Nat) (cs : Array Value) : Fr w (w.setRow g cs) (fun q => q = g) := ⟨rfl, rfl, rfl, by simp, fun k _ hk => setRow_other w g k cs hk⟩
def attT (t : TnP) : TnP := ⟨t.n, t.sec, t.q, t.now, (putH t.A 15 0).2, t.sn, t.tu⟩
theorem ansH_one (e : Nat) : (ansH e).all (·.oneCell') = true := by simp [ansH, Value.oneCell']
theorem szAnsH (e : Nat) : (Tryz.prog.info? 40).map (·.size) = some (ansH e).size := szAns
set_option maxRecDepth 100000 in
set_option maxHeartbeats 1000000 in
theorem attach_yes (x : Nat × TnP) (h : IdM w O s blocks T m bs) (hc : c.Ok) (hf : fnd bs c.ten = some x) (hs : IsB w c.sec.A c.sec.n c.sec.c c.sec.l) (he : c.sec.l = x.2.sec) (hl : x.2.A.length < 1000000) (hp : (putH x.2.A 15 0).1 = (x.2.A.length + 1, 0)) :
    Calls Tryz.prog 46 #[.pointer (some ⟨s, 0, none⟩), .agg c.cs] w (DoR s blocks w O (hdA (c.ten * 4294967296 + (x.2.A.length + 1))) (updT c.ten (attT x.2) T)) := by
  have hx := fnd_mem hf
  obtain ⟨cb, mo, sm, nb, es, ht⟩ := h.all x hx.1
  have ha : Below w.heap.size w ((w.alloc (.cells #[.int .i64 c.kind, .int .u32 (c.ten : Int), .slice c.sec.A c.sec.n c.sec.c, .int .i64 c.quota, .int .i64 c.n, .int .u64 (c.hd : Int), .int .u64 (c.oth : Int), .int .u64 (c.sn : Int), .int .u8 (c.rt : Int), .slice c.oA c.oN c.oC, .slice c.key.A c.key.n c.key.c, .slice c.frm.A c.frm.n c.frm.c, .slice c.upto.A c.upto.n c.upto.c, .bool c.back] 36)).alloc (.cells #[.int .i64 0, .int .u64 0, .int .u64 0, .slice none 0 0, .slice none 0 0, .int .i64 0, .slice none 0 0] 40)) := ((Below.refl _ _).alloc (Nat.le_refl _) _).alloc (by simp) _
  have hcb : CbB ((w.alloc (.cells #[.int .i64 c.kind, .int .u32 (c.ten : Int), .slice c.sec.A c.sec.n c.sec.c, .int .i64 c.quota, .int .i64 c.n, .int .u64 (c.hd : Int), .int .u64 (c.oth : Int), .int .u64 (c.sn : Int), .int .u8 (c.rt : Int), .slice c.oA c.oN c.oC, .slice c.key.A c.key.n c.key.c, .slice c.frm.A c.frm.n c.frm.c, .slice c.upto.A c.upto.n c.upto.c, .bool c.back] 36)).alloc (.cells #[.int .i64 0, .int .u64 0, .int .u64 0, .slice none 0 0, .slice none 0 0, .int .i64 0, .slice none 0 0] 40)) w.heap.size 36 c.cs := (CbB.new w _ _).ab ((Below.refl _ _).alloc (Nat.le_refl _) _)
  have hqb : CbB ((w.alloc (.cells #[.int .i64 c.kind, .int .u32 (c.ten : Int), .slice c.sec.A c.sec.n c.sec.c, .int .i64 c.quota, .int .i64 c.n, .int .u64 (c.hd : Int), .int .u64 (c.oth : Int), .int .u64 (c.sn : Int), .int .u8 (c.rt : Int), .slice c.oA c.oN c.oC, .slice c.key.A c.key.n c.key.c, .slice c.frm.A c.frm.n c.frm.c, .slice c.upto.A c.upto.n c.upto.c, .bool c.back] 36)).alloc (.cells #[.int .i64 0, .int .u64 0, .int .u64 0, .slice none 0 0, .slice none 0 0, .int .i64 0, .slice none 0 0] 40)) (w.heap.size + 1) 40 (ansE 0) := CbB.newI (by simp)
  unfold CallP.cs at hcb ⊢
  go_enter Tryz.func46, Tryz.ntmps46
  go_upto_region 1 with (fail)
  obtain ⟨w0, hw0⟩ : ∃ w0, ((w.alloc (.cells #[.int .i64 c.kind, .int .u32 (c.ten : Int), .slice c.sec.A c.sec.n c.sec.c, .int .i64 c.quota, .int .i64 c.n, .int .u64 (c.hd : Int), .int .u64 (c.oth : Int), .int .u64 (c.sn : Int), .int .u8 (c.rt : Int), .slice c.oA c.oN c.oC, .slice c.key.A c.key.n c.key.c, .slice c.frm.A c.frm.n c.frm.c, .slice c.upto.A c.upto.n c.upto.c, .bool c.back] 36)).alloc (.cells #[.int .i64 0, .int .u64 0, .int .u64 0, .slice none 0 0, .slice none 0 0, .int .i64 0, .slice none 0 0] 40)) = w0 := ⟨_, rfl⟩
  rw [hw0] at ha hcb hqb ⊢
  clear hw0
  have hlk := fun k : Nat => map_look (w := w0.drewN k) ((h.map.ab ha).same rfl) (n := c.ten) hc.ten
  simp only [hf, Option.map_some] at hlk
  have c1 := (h.box.ab ha).cell (k := 1) rfl
  have c5 := hcb.cell (k := 1) rfl
  have c2 := hcb.cell (k := 2) rfl
  have d0 := (ht.box.ab ha).cell (k := 0) rfl
  have d3 := (ht.box.ab ha).cell (k := 3) rfl
  have hst := fun k : Nat => run_str ((hs.ab ha).drewN k) 31 5 9 Tryz.underlying31 Tryz.underlying5 Tryz.underlying9
  have hse : ((strOf c.sec.l).toList == (strOf x.2.sec).toList) = true := by rw [str_eqI hs.2 (h.ok x hx.1).sec]; simpa using he
  have M0 : ∀ k, IdM (w0.drewN k) (cutTg O w.heap.size) s blocks T m bs := fun k => h.stp (Stp.cut (bel_drewN ha k) (fun _ => False)) fun _ h => h
  have T0 : ∀ k, TnM (w0.drewN k) (cutTg O w.heap.size) s x.1 x.2 cb mo sm nb es := fun k => ht.stp (Stp.cut (bel_drewN ha k) (fun _ => False)) fun h => h
  have HA := Lib.hid ha
  have HQ := Lib.hid hqb
  have HB := Lib.hid hcb
  have HM := Lib.hid M0
  have HT := Lib.hid T0
  have HC := Lib.hid fun k => attachA_any (T0 k).caps hl
  have HH := Lib.hid fun W => handle_yes c.ten (x.2.A.length + 1) hc.ten (by omega) W
  have HP := Lib.hid hp
  have HX := Lib.hid hx.2
  have HN : Hid (TnOk (attT x.2)) := Lib.hid ⟨(h.ok x hx.1).n1, (h.ok x hx.1).n32, (h.ok x hx.1).sec, (h.ok x hx.1).q1, (h.ok x hx.1).q2⟩
  have HF := Lib.hid hf
  clear h ha hqb hcb hf hc hs he ht hx M0 T0 hp hl
  go_quiet (fail)
  go_wp2_with fail
  go_quiet (fail)
  go_wp2_with fail
  refine (HC.out _).mono ?_
  intro e w1 hr
  obtain ⟨rfl, mo', O1, k1, t1⟩ := caps_step (HT.out _) HX.out hr
  rw [HP.out]
  dsimp only
  have K1 := Lib.hid k1
  have M1 := Lib.hid ((HM.out _).upd (t' := attT x.2) HF.out k1 HX.out HN.out ⟨_, _, _, _, _, t1⟩)
  have Q1 : Hid (CbB w1 (w.heap.size + 1) 40 (ansE 0)) := Lib.hid ((k1.ot (k := w.heap.size + 1) (by have := HQ.out.lt; exact this) (cutTg_at (Nat.le_succ _)) (fun e => by injection e with _ e; have := (HN.out).n1; have := HX.out; simp only [attT] at *; omega)).1.trans HQ.out)
  have G1 : Hid (O1 (w.heap.size + 1) = some (0, 0)) := Lib.hid ((k1.tg _ (by have := HQ.out.lt; exact this)).trans (cutTg_at (Nat.le_succ _)))
  have c5' : w1.cell? ⟨w.heap.size, 1, none⟩ = some (.int .u32 (c.ten : Int)) := (show CbB w1 w.heap.size _ _ from ((k1.ot (k := w.heap.size) (by have := HB.out.lt; exact this) (cutTg_at (Nat.le_refl _)) (fun e => by injection e with _ e; have := (HN.out).n1; have := HX.out; simp only [attT] at *; omega)).1.trans HB.out)).cell (k := 1) rfl
  have S1 : Hid (Stp (fun τ => τ.1 = s) w O w1 O1) := Lib.hid (((Stp.cut HA.out _).ab (bel_drewN (Below.refl _ _) _)).tr (k1.imp fun τ e => by rw [e]))
  clear k1 t1 hr HC HT HM HQ HF hlk hst
  go_wp2_with fail
  refine (HH.out _).mono ?_
  rintro e w2 ⟨rfl, hb⟩
  have Q2 := Lib.hid (Q1.out.ab hb)
  have M2 := Lib.hid (M1.out.stp (Stp.of hb (fun _ => False) fun _ _ => rfl) fun _ h => h)
  have S2 := Lib.hid (S1.out.ab hb)
  clear hb Q1 M1 S1 HH
  go_wp2_with (first
    | (with_reducible refine wpList_storeC (o := ⟨none, .store _ (.tmp 4) (.tmp 41), _, _, _, _⟩) ?_ 40 (.tmp 4) (.tmp 41) ?_ (w.heap.size + 1) ?_ (ansH (c.ten * 4294967296 + (x.2.A.length + 1))) ?_ (cs := ansE 0) (t := 40) Q2.out (szAnsH _) ?_ (ansH_one _) ?_
       · rfl
       · rfl
       · rfl
       · rfl
       · rfl
       intro wz hwz
       have QZ : Hid (CbB wz (w.heap.size + 1) 40 (ansH (c.ten * 4294967296 + (x.2.A.length + 1)))) := Lib.hid (by rw [hwz]; exact CbB.row Q2.out _)
       have FZ : Hid (Fr w2 wz (fun k => k = (w.heap.size + 1))) := Lib.hid (by rw [hwz]; exact fr_rowX _ _ _)
       clear hwz))
  refine bodyPost_ret (ans_results Tryz.results46 _ _ (w.heap.size + 1) (ansH (c.ten * 4294967296 + (x.2.A.length + 1))) rfl QZ.out rfl) rfl ?_
  exact DoR.flat 0 (c.ten * 4294967296 + (x.2.A.length + 1)) 0 0 ⟨m, _, M2.out.stp (Stp.box FZ.out G1.out) fun i e => by have := M2.out.pos; injection e with e; omega⟩ (S2.out.fresh FZ.out (Nat.le_succ _))
end
end Go.Proofs.YtnnjmelibmiimaaGreat
namespace Go.Proofs.YtnnjmelibmiimaaGreat
open Go.RowKit
set_option linter.unusedVariables false
set_option linter.unusedSimpArgs false

section
variable {w : World} {O : Tg} {s blocks m : Nat} {T : List TnP} {bs : List (Nat × TnP)} {c : CallP}
theorem szAn7 (a b c d e f g : Value) : (Tryz.prog.info? 40).map (·.size) = some (#[a, b, c, d, e, f, g] : Array Value).size := szAns
def valA (v : List Nat) : AnsP := ⟨0, 0, 0, v, [], 0, []⟩
set_option maxRecDepth 100000 in
set_option maxHeartbeats 1000000 in
theorem id_get_hit (x : Nat × TnP) (h : IdM w O s blocks T m bs) (hc : c.Ok) (hf : fnd bs (c.hd / 4294967296) = some x) (hk : checkH x.2.A (c.hd % 4294967296) 1 = 0) (hn : 1 ≤ c.key.n ∧ c.key.n ≤ 32) (hkey : IsB w c.key.A c.key.n c.key.c c.key.l) (S : Bk2) (hs : seenP x.2 c.sn = some S) (u : List Nat) (hg : getK (k8 c.key.l) S = some u) :
    Calls Tryz.prog 50 #[.pointer (some ⟨s, 0, none⟩), .agg c.cs] w (DoR s blocks w O (valA u) T) := by
  obtain ⟨cb, mo, sm, nb, es, ht⟩ := h.all x (fnd_mem hf).1
  have n1 : ((c.key.n : Int) == 0) = false := by simp; omega
  have n2 : decide ((32 : Int) < (c.key.n : Int)) = false := by simp; omega
  have n3 : ¬ c.key.n = 0 := by omega
  have n4 : ¬ 32 < c.key.n := by omega
  have ha : Below w.heap.size w ((w.alloc (.cells #[.int .i64 c.kind, .int .u32 (c.ten : Int), .slice c.sec.A c.sec.n c.sec.c, .int .i64 c.quota, .int .i64 c.n, .int .u64 (c.hd : Int), .int .u64 (c.oth : Int), .int .u64 (c.sn : Int), .int .u8 (c.rt : Int), .slice c.oA c.oN c.oC, .slice c.key.A c.key.n c.key.c, .slice c.frm.A c.frm.n c.frm.c, .slice c.upto.A c.upto.n c.upto.c, .bool c.back] 36)).alloc (.cells #[.int .i64 0, .int .u64 0, .int .u64 0, .slice none 0 0, .slice none 0 0, .int .i64 0, .slice none 0 0] 40)) := ((Below.refl _ _).alloc (Nat.le_refl _) _).alloc (by simp) _
  have hcb : CbB ((w.alloc (.cells #[.int .i64 c.kind, .int .u32 (c.ten : Int), .slice c.sec.A c.sec.n c.sec.c, .int .i64 c.quota, .int .i64 c.n, .int .u64 (c.hd : Int), .int .u64 (c.oth : Int), .int .u64 (c.sn : Int), .int .u8 (c.rt : Int), .slice c.oA c.oN c.oC, .slice c.key.A c.key.n c.key.c, .slice c.frm.A c.frm.n c.frm.c, .slice c.upto.A c.upto.n c.upto.c, .bool c.back] 36)).alloc (.cells #[.int .i64 0, .int .u64 0, .int .u64 0, .slice none 0 0, .slice none 0 0, .int .i64 0, .slice none 0 0] 40)) w.heap.size 36 c.cs := (CbB.new w _ _).ab ((Below.refl _ _).alloc (Nat.le_refl _) _)
  have hqb : CbB ((w.alloc (.cells #[.int .i64 c.kind, .int .u32 (c.ten : Int), .slice c.sec.A c.sec.n c.sec.c, .int .i64 c.quota, .int .i64 c.n, .int .u64 (c.hd : Int), .int .u64 (c.oth : Int), .int .u64 (c.sn : Int), .int .u8 (c.rt : Int), .slice c.oA c.oN c.oC, .slice c.key.A c.key.n c.key.c, .slice c.frm.A c.frm.n c.frm.c, .slice c.upto.A c.upto.n c.upto.c, .bool c.back] 36)).alloc (.cells #[.int .i64 0, .int .u64 0, .int .u64 0, .slice none 0 0, .slice none 0 0, .int .i64 0, .slice none 0 0] 40)) (w.heap.size + 1) 40 (ansE 0) := CbB.newI (by simp)
  unfold CallP.cs at hcb ⊢
  go_enter Tryz.func50, Tryz.ntmps50
  go_upto_region 1 with (fail)
  obtain ⟨w0, hw0⟩ : ∃ w0, ((w.alloc (.cells #[.int .i64 c.kind, .int .u32 (c.ten : Int), .slice c.sec.A c.sec.n c.sec.c, .int .i64 c.quota, .int .i64 c.n, .int .u64 (c.hd : Int), .int .u64 (c.oth : Int), .int .u64 (c.sn : Int), .int .u8 (c.rt : Int), .slice c.oA c.oN c.oC, .slice c.key.A c.key.n c.key.c, .slice c.frm.A c.frm.n c.frm.c, .slice c.upto.A c.upto.n c.upto.c, .bool c.back] 36)).alloc (.cells #[.int .i64 0, .int .u64 0, .int .u64 0, .slice none 0 0, .slice none 0 0, .int .i64 0, .slice none 0 0] 40)) = w0 := ⟨_, rfl⟩
  rw [hw0] at ha hcb hqb ⊢
  clear hw0
  have c0 := (hcb).cell (k := 0) rfl
  have c1 := (hcb).cell (k := 1) rfl
  have c2 := (hcb).cell (k := 2) rfl
  have c3 := (hcb).cell (k := 3) rfl
  have c4 := (hcb).cell (k := 4) rfl
  have c5 := (hcb).cell (k := 5) rfl
  have c6 := (hcb).cell (k := 6) rfl
  have c7 := (hcb).cell (k := 7) rfl
  have c8 := (hcb).cell (k := 8) rfl
  have c9 := (hcb).cell (k := 9) rfl
  have c10 := (hcb).cell (k := 10) rfl
  have c11 := (hcb).cell (k := 11) rfl
  have c12 := (hcb).cell (k := 12) rfl
  have c13 := (hcb).cell (k := 13) rfl
  have HA := Lib.hid ha
  have HQ := Lib.hid hqb
  have HB := Lib.hid hcb
  have M0 := h.stp (Stp.cut ha (fun _ => False)) fun _ h => h
  have HM := Lib.hid M0
  have T0 := ht.stp (Stp.cut ha (fun _ => False)) fun h => h
  have HT := Lib.hid T0
  have HH := Lib.hid (holder_some 1 x cb mo sm nb es M0 hc hf T0)
  rw [hk] at HH
  have CO := Lib.hid hc
  have HFN := Lib.hid hf
  have HSN := Lib.hid hs
  have HG := Lib.hid hg
  have HK := Lib.hid (hkey.ab ha)
  have KO : Hid (kyOk (k8 c.key.l)) := Lib.hid (by unfold kyOk; rw [k8_len, hkey.len]; exact hn.2)
  clear h ha hqb hcb hf hc M0 T0 ht hk hs hg hkey hn
  go_wp2_with fail
  refine HH.out.mono ?_
  rintro e w9 ⟨rfl, hb9⟩
  have B9 := Lib.hid hb9
  clear hb9 HH
  have q0 := (HB.out.ab B9.out).cell (k := 0) rfl
  have q1 := (HB.out.ab B9.out).cell (k := 1) rfl
  have q2 := (HB.out.ab B9.out).cell (k := 2) rfl
  have q3 := (HB.out.ab B9.out).cell (k := 3) rfl
  have q4 := (HB.out.ab B9.out).cell (k := 4) rfl
  have q5 := (HB.out.ab B9.out).cell (k := 5) rfl
  have q6 := (HB.out.ab B9.out).cell (k := 6) rfl
  have q7 := (HB.out.ab B9.out).cell (k := 7) rfl
  have q8 := (HB.out.ab B9.out).cell (k := 8) rfl
  have q9 := (HB.out.ab B9.out).cell (k := 9) rfl
  have q10 := (HB.out.ab B9.out).cell (k := 10) rfl
  have q11 := (HB.out.ab B9.out).cell (k := 11) rfl
  have q12 := (HB.out.ab B9.out).cell (k := 12) rfl
  have q13 := (HB.out.ab B9.out).cell (k := 13) rfl
  have HS := Lib.hid (seen_any (c := c) CO.out (HT.out.stp (Stp.of B9.out (fun _ => False) fun _ _ => rfl) fun h => h))
  go_wp2_with fail
  refine HS.out.mono ?_
  rintro e w8 ⟨hr, hb⟩
  rcases hr with ⟨hz, _⟩ | ⟨S', k, h1, hbk, hko, rfl⟩
  · rw [HSN.out] at hz; cases hz
  rw [HSN.out] at h1
  injection h1 with h1
  subst h1
  have B8 := Lib.hid (below_tr B9.out hb B9.out.size)
  have BK := Lib.hid (hbk.stp hko (Stp.of (O' := cutTg O w.heap.size) hb (fun _ => False) fun _ _ => rfl))
  clear hb HS hbk hko
  have q10 := (HB.out.ab B8.out).cell (k := 10) rfl
  have hst := run_str (HK.out.ab B8.out) 31 5 9 Tryz.underlying31 Tryz.underlying5 Tryz.underlying9
  rcases BK.out.look (k8 c.key.l) KO.out with ⟨hz, _⟩ | ⟨v, u', hu, him, hlk⟩
  · rw [HG.out] at hz; cases hz
  rw [HG.out] at hu
  injection hu with hu
  subst hu
  obtain ⟨vA, vn, vc, rfl, hvn, hvi, _⟩ := him
  have hlk := hlk w8 rfl 78 true Tryz.underlying78
  rw [← strOf_k8] at hlk
  simp only [if_true] at hlk
  have HC := Lib.hid (bclone_any vA vn vc u w8 hvi hvn)
  clear hvi hvn
  go_wp2_with fail
  refine HC.out.mono ?_
  rintro e w7 ⟨v7, rfl, ho, hb⟩
  obtain ⟨A7, c7', rfl, _, _⟩ := ho.shape
  have OW := Lib.hid ho
  have B7 := Lib.hid (below_tr B8.out hb B8.out.size)
  have G8 : Hid (w.heap.size ≤ w8.heap.size) := Lib.hid (Nat.le_trans HA.out.size B8.out.size)
  have Q7 := Lib.hid (HQ.out.ab B7.out)
  have M7 := Lib.hid (HM.out.stp (Stp.of B7.out (fun _ => False) fun _ _ => rfl) fun _ h => h)
  have S7 : Hid (Stp (fun τ => τ.1 = s) w O w7 (cutTg O w.heap.size)) := Lib.hid ((Stp.cut HA.out _).ab B7.out)
  clear ho hb HC hlk hst
  go_wp2_with (first
    | (with_reducible refine wpList_storeC (o := ⟨none, .store _ (.tmp 4) (.tmp 58), _, _, _, _⟩) ?_ 40 (.tmp 4) (.tmp 58) ?_ (w.heap.size + 1) ?_ (#[.int .i64 0, .int .u64 0, .int .u64 0, .slice A7 u.length c7', .slice none 0 0, .int .i64 0, .slice none 0 0]) ?_ (cs := ansE 0) (t := 40) Q7.out (szAn7 _ _ _ _ _ _ _) ?_ (by simp [Value.oneCell']) ?_
       · rfl
       · rfl
       · rfl
       · rfl
       · rfl
       intro wz hwz
       have QZ : Hid (CbB wz (w.heap.size + 1) 40 (#[.int .i64 0, .int .u64 0, .int .u64 0, .slice A7 u.length c7', .slice none 0 0, .int .i64 0, .slice none 0 0])) := Lib.hid (by rw [hwz]; exact CbB.row Q7.out _)
       have FZ : Hid (Fr w7 wz (fun k => k = (w.heap.size + 1))) := Lib.hid (by rw [hwz]; exact fr_rowX _ _ _)
       clear hwz))
  refine bodyPost_ret (ans_results Tryz.results50 _ _ (w.heap.size + 1) (#[.int .i64 0, .int .u64 0, .int .u64 0, .slice A7 u.length c7', .slice none 0 0, .int .i64 0, .slice none 0 0]) rfl QZ.out rfl) rfl ?_
  have nb : ∀ q, (Value.slice A7 u.length c7').ownBlock = some q → w8.heap.size ≤ q ∧ q < w7.heap.size := fun q hq => OW.out.lt q hq
  have hbx : w.heap.size + 1 < w8.heap.size := Nat.lt_of_lt_of_le HQ.out.lt B8.out.size
  refine ⟨_, cutTg O w.heap.size, rfl, ⟨_, _, _, rfl, (OW.out.fr FZ.out (fun q hq e => by have := nb q hq; omega)).lower G8.out, fun q hq => cutTg_at (by have := nb q hq; have := G8.out; omega), ⟨[], World.ownsRow_nil _ _ _ _, fun g hg => (by cases hg), rfl, fun i p q hi => (by simp at hi)⟩, U32.NsB.nil _ _, fun g hg => (by cases hg)⟩, ⟨m, bs, M7.out.stp (Stp.box FZ.out (cutTg_at (Nat.le_succ _))) fun i e => by have := M7.out.pos; injection e with e; omega⟩, S7.out.fresh FZ.out (Nat.le_succ _)⟩
end
end Go.Proofs.YtnnjmelibmiimaaGreat
namespace Go.Proofs.YtnnjmelibmiimaaGreat
open Go.RowKit

theorem three (n lo hi : Int) : n < lo ∨ (¬ n < lo ∧ hi < n) ∨ (¬ n < lo ∧ n ≤ hi ∧ lo ≤ n) := by omega

set_option maxHeartbeats 400000 in
theorem qR_bad (n : Int) (w : World) (h : n < 1 ∨ 1000 < n) :
    Calls Tryz.prog 105 #[.int .i64 n] w fun e w' => e = .returned (.tuple #[.int .i64 0, .int .i64 2]) ∧ w = w' := by
  rcases h with h | h
  · go_enter Tryz.func105, Tryz.ntmps105
    go_wp2
    go_ret2
    exact ⟨rfl, rfl⟩
  · have h0 : ¬ n < 1 := by omega
    go_enter Tryz.func105, Tryz.ntmps105
    go_wp2
    go_ret2
    exact ⟨rfl, rfl⟩

set_option maxHeartbeats 400000 in
theorem qR_ok (n : Int) (w : World) (h0 : 1 ≤ n) (h1 : n ≤ 1000) :
    Calls Tryz.prog 105 #[.int .i64 n] w fun e w' => e = .returned (.tuple #[.int .i64 (4 * n + 2), .int .i64 0]) ∧ w = w' := by
  go_enter Tryz.func105, Tryz.ntmps105
  go_wp2
  go_ret2
  exact ⟨rfl, rfl⟩

set_option maxHeartbeats 400000 in
theorem qD_bad (n : Int) (w : World) (h : n < 0 ∨ 64 < n) :
    Calls Tryz.prog 103 #[.int .i64 n] w fun e w' => e = .returned (.tuple #[.int .i64 0, .int .i64 2]) ∧ w = w' := by
  rcases h with h | h
  · go_enter Tryz.func103, Tryz.ntmps103
    go_wp2
    go_ret2
    exact ⟨rfl, rfl⟩
  · have h0 : ¬ n < 0 := by omega
    go_enter Tryz.func103, Tryz.ntmps103
    go_wp2
    go_ret2
    exact ⟨rfl, rfl⟩

set_option maxHeartbeats 400000 in
theorem qD_ok (n : Int) (w : World) (h0 : 0 ≤ n) (h1 : n ≤ 64) :
    Calls Tryz.prog 103 #[.int .i64 n] w fun e w' => e = .returned (.tuple #[.int .i64 (8 * n + 4), .int .i64 0]) ∧ w = w' := by
  go_enter Tryz.func103, Tryz.ntmps103
  go_wp2
  go_ret2
  exact ⟨rfl, rfl⟩

def quotaB (n : Int) : Bool := decide (1 ≤ n) && decide (n ≤ 1000)
theorem quotaB_yes {n : Int} (h0 : 1 ≤ n) (h1 : n ≤ 1000) : quotaB n = true := by unfold quotaB; simp; omega
theorem quotaB_no {n : Int} (h : n < 1 ∨ 1000 < n) : quotaB n = false := by unfold quotaB; simp; omega

set_option maxHeartbeats 400000 in
theorem qPieces_bad (n : Int) (w : World) (h : n < 0 ∨ 1024 < n) :
    Calls Tryz.prog 129 #[.int .i64 n] w fun e w' => e = .returned (.tuple #[.int .i64 0, .int .i64 2]) ∧ w = w' := by
  rcases h with h | h
  · go_enter Tryz.func129, Tryz.ntmps129
    go_wp2
    go_ret2
    exact ⟨rfl, rfl⟩
  · have h0 : ¬ n < 0 := by omega
    go_enter Tryz.func129, Tryz.ntmps129
    go_wp2
    go_ret2
    exact ⟨rfl, rfl⟩

/-- how many pieces: the plain function -/
def piecesOf (n : Int) : Int := if n ≤ 64 then 0 else (n + 207) / 208

set_option maxHeartbeats 400000 in
theorem qPieces_ok (n : Int) (w : World) (h0 : 0 ≤ n) (h1 : n ≤ 1024) :
    Calls Tryz.prog 129 #[.int .i64 n] w fun e w' => e = .returned (.tuple #[.int .i64 (piecesOf n), .int .i64 0]) ∧ w = w' := by
  by_cases h : n ≤ 64
  · have e : piecesOf n = 0 := by unfold piecesOf; rw [if_pos h]
    rw [e]
    clear e
    go_enter Tryz.func129, Tryz.ntmps129
    go_wp2
    go_ret2
    exact ⟨rfl, rfl⟩
  · have e : piecesOf n = (n + 208 - 1) / 208 := by unfold piecesOf; rw [if_neg h]; omega
    rw [e]
    clear e
    go_enter Tryz.func129, Tryz.ntmps129
    go_wp2
    go_ret2
    exact ⟨rfl, rfl⟩

set_option maxHeartbeats 400000 in
theorem qCost_ok (ka va : Option Addr) (kl kc vl vc : Nat) (w : World) (h0 : 1 ≤ kl) (h1 : kl ≤ 32) (h2 : vl ≤ 1024) :
    Calls Tryz.prog 115 #[.slice ka kl kc, .slice va vl vc] w fun e w' => e = .returned (.tuple #[.int .i64 (piecesOf vl + 1), .int .i64 0]) ∧ w = w' := by
  have hp : 0 ≤ piecesOf vl ∧ piecesOf vl ≤ 10 := by unfold piecesOf; split <;> omega
  have hk0 : ((kl : Int) == 0) = false := by simp; omega
  have hk1 : decide (32 < (kl : Int)) = false := by simp; omega
  go_enter Tryz.func115, Tryz.ntmps115
  go_wp2_with (go_at_call 129; refine (qPieces_ok _ _ (by omega) (by omega)).mono ?_; rintro e w' ⟨rfl, rfl⟩)
  go_ret2
  exact ⟨rfl, rfl⟩

set_option maxHeartbeats 400000 in
theorem qCost_long (ka va : Option Addr) (kl kc vl vc : Nat) (w : World) (h2 : 1024 < vl) :
    Calls Tryz.prog 115 #[.slice ka kl kc, .slice va vl vc] w fun e w' => e = .returned (.tuple #[.int .i64 0, .int .i64 2]) ∧ w = w' := by
  go_enter Tryz.func115, Tryz.ntmps115
  go_wp2_with (go_at_call 129; refine (qPieces_bad _ _ (by omega)).mono ?_; rintro e w' ⟨rfl, rfl⟩)
  go_ret2
  exact ⟨rfl, rfl⟩

set_option maxHeartbeats 400000 in
theorem qCost_key (ka va : Option Addr) (kl kc vl vc : Nat) (w : World) (h2 : vl ≤ 1024) (h : kl = 0 ∨ 32 < kl) :
    Calls Tryz.prog 115 #[.slice ka kl kc, .slice va vl vc] w fun e w' => e = .returned (.tuple #[.int .i64 0, .int .i64 2]) ∧ w = w' := by
  rcases h with rfl | h
  · go_enter Tryz.func115, Tryz.ntmps115
    go_wp2_with (go_at_call 129; refine (qPieces_ok _ _ (by omega) (by omega)).mono ?_; rintro e w' ⟨rfl, rfl⟩)
    go_ret2
    exact ⟨rfl, rfl⟩
  · have hk0 : ((kl : Int) == 0) = false := by simp; omega
    have hk1 : decide (32 < (kl : Int)) = true := by simp; omega
    go_enter Tryz.func115, Tryz.ntmps115
    go_wp2_with (go_at_call 129; refine (qPieces_ok _ _ (by omega) (by omega)).mono ?_; rintro e w' ⟨rfl, rfl⟩)
    go_ret2
    exact ⟨rfl, rfl⟩

theorem infoI64 : (Tryz.prog.info? 3).map (fun i => (i.zero, i.size, i.bytes)) = some (some (.int .i64 0), 1, 8) := by kernel_rfl
end Go.Proofs.YtnnjmelibmiimaaGreat
namespace Go.Proofs.YtnnjmelibmiimaaGreat
open Go.RowKit Go.Deep
set_option linter.unusedVariables false

/-- what a pair costs, and its error -/
def costN (kl vl : Nat) : Int := if 1 ≤ kl ∧ kl ≤ 32 ∧ vl ≤ 1024 then piecesOf vl + 1 else 0
def costE (kl vl : Nat) : Int := if 1 ≤ kl ∧ kl ≤ 32 ∧ vl ≤ 1024 then 0 else 2
theorem costN_bd (kl vl : Nat) : 0 ≤ costN kl vl ∧ costN kl vl ≤ 11 := by
  unfold costN
  split
  · unfold piecesOf; split <;> omega
  · omega

theorem qCost_any (ka va : Option Addr) (kl kc vl vc : Nat) (w : World) :
    Calls Tryz.prog 115 #[.slice ka kl kc, .slice va vl vc] w fun e w' => e = .returned (.tuple #[.int .i64 (costN kl vl), .int .i64 (costE kl vl)]) ∧ w = w' := by
  unfold costN costE
  by_cases hv : vl ≤ 1024
  · by_cases hk : 1 ≤ kl ∧ kl ≤ 32
    · rw [if_pos ⟨hk.1, hk.2, hv⟩, if_pos ⟨hk.1, hk.2, hv⟩]
      exact qCost_ok ka va kl kc vl vc w hk.1 hk.2 hv
    · rw [if_neg (by omega), if_neg (by omega)]
      exact qCost_key ka va kl kc vl vc w hv (by omega)
  · rw [if_neg (by omega), if_neg (by omega)]
    exact qCost_long ka va kl kc vl vc w (by omega)

/-- a slice of pairs that came in -/
def IsPairs (w : World) (A : Option Addr) (n c : Nat) (K V : Nat → Option Addr × Nat × Nat) : Prop :=
  n ≤ c ∧ c ≤ maxLen ∧ ((A = none ∧ c = 0) ∨ ∃ x, A = some x ∧ (0 < c → x.block < w.heap.size) ∧ ∀ i, i < n →
    w.cell? (x.add (i * 2)) = some (.slice (K i).1 (K i).2.1 (K i).2.2) ∧ w.cell? (x.add (i * 2 + 1)) = some (.slice (V i).1 (V i).2.1 (V i).2.2))
theorem IsPairs.at {w : World} {A : Option Addr} {n c : Nat} {K V : Nat → Option Addr × Nat × Nat} (h : IsPairs w A n c K V) (hn : 0 < n) : ∃ x, A = some x ∧ x.block < w.heap.size ∧ ∀ i, i < n →
    w.cell? (x.add (i * 2)) = some (.slice (K i).1 (K i).2.1 (K i).2.2) ∧ w.cell? (x.add (i * 2 + 1)) = some (.slice (V i).1 (V i).2.1 (V i).2.2) := by
  obtain ⟨hc, _, h5⟩ := h
  rcases h5 with ⟨_, h0⟩ | ⟨x, h1, h2, h3⟩
  · omega
  · exact ⟨x, h1, h2 (by omega), h3⟩
theorem IsPairs.below {w w' : World} {A : Option Addr} {n c : Nat} {K V : Nat → Option Addr × Nat × Nat} (h : IsPairs w A n c K V) (hb : Below w.heap.size w w') : IsPairs w' A n c K V := by
  obtain ⟨h1, h2, h5⟩ := h
  refine ⟨h1, h2, ?_⟩
  rcases h5 with h5 | ⟨x, e, hx, hc⟩
  · exact .inl h5
  · refine .inr ⟨x, e, fun h0 => Nat.lt_of_lt_of_le (hx h0) hb.size, fun i hi => ?_⟩
    have hlt := hx (by omega)
    exact ⟨(hb.cell (by rw [add_block]; exact hlt)).trans (hc i hi).1, (hb.cell (by rw [add_block]; exact hlt)).trans (hc i hi).2⟩

def cN (K V : Nat → Option Addr × Nat × Nat) (i : Nat) : Int := costN (K i).2.1 (V i).2.1
end Go.Proofs.YtnnjmelibmiimaaGreat
