/-
  LISTS OF NUMBERS OF ONE KIND (uint32): appended to, sorted by the library.
-/
import Derived.Test.YtnnjmelibmiimaaGreatBdi
import Derived.Test.YtnnjmelibmiimaaGreatBdc
import Derived.Test.YtnnjmelibmiimaaGreatBdf
namespace Go.Proofs.YtnnjmelibmiimaaGreat.U32
open Go.RowKit Go.Sort
set_option linter.unusedVariables false

def nvs (l : List Nat) : List Value := l.map fun (n : Nat) => Value.int .u32 (n : Int)
theorem nvs_len (l : List Nat) : (nvs l).length = l.length := List.length_map _
theorem infoN : (Tryz.prog.info? 22).map (fun i => (i.zero, i.size, i.bytes)) = some (some (.int .u32 0), 1, 4) := by kernel_rfl
/-- numbers, one appended behind the other -/
def NsB (w : World) (B : Nat) (v : Value) (l : List Nat) : Prop := w.ownsRow B 22 1 v l.length (nvs l)
theorem NsB.nil (w : World) (B : Nat) : NsB w B (.slice none 0 0) [] := World.ownsRow_nil _ _ _ _
theorem NsB.kept {w w' : World} {B : Nat} {v : Value} {l : List Nat} {row : Option Nat} (h : NsB w B v l) (hg : w.grownBy w' row) (hne : v.ownBlock = none ∨ v.ownBlock ≠ row) : NsB w' B v l := World.ownsRow.kept h hg hne
theorem NsB.ab {w w' : World} {B : Nat} {v : Value} {l : List Nat} (h : NsB w B v l) (hb : Below w.heap.size w w') : NsB w' B v l := World.ownsRow.kept (row := none) h (grown_of hb none) (by cases hv : v.ownBlock <;> simp)
theorem NsB.lt {w : World} {B g : Nat} {v : Value} {l : List Nat} (h : NsB w B v l) (hg : v.ownBlock = some g) : g < w.heap.size := by
  rcases h.2 with ⟨rfl, _⟩ | ⟨g', cap, cur, rfl, _, hb, _⟩
  · cases hg
  · cases hg
    exact (Array.getElem?_eq_some_iff.1 hb).1
theorem NsB.form {w : World} {B : Nat} {v : Value} {l : List Nat} (h : NsB w B v l) : ∃ A c, v = .slice A l.length c ∧ ∀ i (hi : i < l.length), ∃ g, A = some ⟨g, 0, none⟩ ∧ w.cell? ⟨g, i, none⟩ = some (.int .u32 ((l[i] : Nat) : Int)) := by
  have h0 := h
  rcases h.2 with ⟨rfl, h1⟩ | ⟨g, cap, cur, rfl, _, hb, _⟩
  · exact ⟨none, 0, by rw [h1], fun i hi => by omega⟩
  · refine ⟨_, _, rfl, fun i hi => ⟨g, rfl, ?_⟩⟩
    have h2 := World.ownsRow.cellAt h0 i (by omega)
    rw [h2]
    simp [nvs, hi]
theorem holds_own {w : World} {g : Nat} {cur : Array Value} {e : TypeId} {l : List Nat} (hb : w.heap[g]? = some (.cells cur e (0, 0))) (ht : cur.toList.take l.length = nvs l) : Holds (Value.int .u32) w g 0 (l.map fun (n : Nat) => (n : Int)).toArray := by
  intro j hj
  have hj' : j < l.length := by simpa using hj
  refine ⟨?_, by simp [World.frozen?, hb]⟩
  have h1 : (cur.toList.take l.length)[j]? = (nvs l)[j]? := by rw [ht]
  rw [List.getElem?_take_of_lt hj'] at h1
  simp only [World.cell?, hb, Nat.zero_add]
  simp only [Option.isSome_none, Bool.false_eq_true, if_false]
  rw [← Array.getElem?_toList, h1]
  simp [nvs, hj']
theorem heap_sorted {w : World} {g n : Nat} {os : Array Obj} {cur : Array Value} {e : TypeId} {fr : Nat × Nat} (d : Array Int) (hb : w.heap[g]? = some (.cells cur e fr)) :
    (grow (putRow (Value.int .u32) (Sort.ahead w n) g 0 d) os).heap[g]? = some (.cells (putCells (Value.int .u32) 0 d cur) e fr) := by
  have hg : g < w.heap.size := (Array.getElem?_eq_some_iff.1 hb).1
  rw [heap_grow_old _ _ (by simpa using hg)]
  simp [putRow, mapBlock, Sort.ahead, Array.getElem?_modify, hb, onCells]
theorem grownBy_sorted {w : World} {g n : Nat} {os : Array Obj} (d : Array Int) : w.grownBy (grow (putRow (Value.int .u32) (Sort.ahead w n) g 0 d) os) (some g) := by
  refine ⟨rfl, rfl, rfl, by simp, fun k hk hne => ?_⟩
  rw [heap_grow_old _ _ (by simpa using hk)]
  have : g ≠ k := fun e => hne (by rw [e])
  simp [putRow, mapBlock, Sort.ahead, Array.getElem?_modify, this]
theorem take_sorted (cur : Array Value) (ts : List Nat) (h : ts.length ≤ cur.size) : (putCells (Value.int .u32) 0 (ts.map fun (n : Nat) => (n : Int)).toArray cur).toList.take ts.length = nvs ts := by
  apply List.ext_getElem?
  intro j
  by_cases hj : j < ts.length
  · rw [List.getElem?_take_of_lt hj, Array.getElem?_toList]
    simp [putCells, nvs, hj, show j < cur.size by omega]
  · rw [List.getElem?_take_eq_none (by omega), List.getElem?_eq_none (by simp [nvs]; omega)]
theorem below_grownO {B : Nat} {a b c : World} {r : Option Nat} (h : Below B a b) (k : b.grownBy c r) (hr : ∀ g, r = some g → B ≤ g) (hs : B ≤ b.heap.size) : Below B a c := h.trans ⟨k.os, k.tape, k.output, k.size, fun i hi => k.block i (by omega) (fun e => by have := hr i e.symm; omega)⟩
def srt (l : List Nat) : List Nat := l.mergeSort fun a b => decide (a ≤ b)
theorem srt_len (l : List Nat) : (srt l).length = l.length := List.length_mergeSort _
theorem srt_int (l : List Nat) : (l.map fun (n : Nat) => (n : Int)).mergeSort (fun x y => decide (x ≤ y)) = (srt l).map fun (n : Nat) => (n : Int) := by
  unfold srt
  rw [List.map_mergeSort (s := fun x y : Int => decide (x ≤ y))]
  intro a _ b _
  simp
/-- slices.Sort of such a list -/
theorem sort_own (B : Nat) (v : Value) (l : List Nat) (w : World) (h : NsB w B v l) (hl : l.length ≤ 100000) :
    Calls Tryz.prog 107 #[v] w fun e w' => e = .returned (.tuple #[]) ∧ NsB w' B v (srt l) ∧ w.grownBy w' v.ownBlock := by
  rcases h.2 with ⟨rfl, h1⟩ | ⟨g, cap, cur, rfl, hg, hb, hn, hc, hs, ht⟩
  · obtain rfl := List.eq_nil_of_length_eq_zero h1
    refine (s_Sort_nil none 0 w).mono ?_
    rintro e w' ⟨rfl, rfl⟩
    exact ⟨rfl, by rw [show srt [] = [] by simp [srt]]; exact NsB.nil _ _, World.grownBy.refl _ _⟩
  · rw [Nat.mul_one] at ht hs
    have h2 := sort_any g 0 cap (l.map fun (n : Nat) => (n : Int)) w (holds_own hb ht) (Array.getElem?_eq_some_iff.1 hb).1 (by simp; omega)
    rw [srt_int, List.length_map] at h2
    refine h2.mono ?_
    rintro e w' ⟨rfl, n, os, rfl⟩
    refine ⟨rfl, ⟨by rw [nvs_len, Nat.mul_one], .inr ⟨g, cap, _, by rw [srt_len], hg, heap_sorted _ hb, by rw [srt_len]; exact hn, hc, by simp [putCells, hs], ?_⟩⟩, grownBy_sorted _⟩
    rw [Nat.mul_one]
    exact take_sorted cur _ (by rw [srt_len]; omega)
end Go.Proofs.YtnnjmelibmiimaaGreat.U32
namespace Go.Proofs.YtnnjmelibmiimaaGreat
open Go.RowKit
set_option linter.unusedVariables false
set_option linter.unusedSimpArgs false

theorem cb_neX {w : World} {g b : Nat} {T T' : TypeId} {cs cs' : Array Value} (h : CbB w g T cs) (h' : CbB w b T' cs') (hT : T ≠ T') : g ≠ b := fun e => by
  unfold CbB at h h'
  rw [e, h'] at h
  injection h with h
  injection h with _ h
  exact hT h.symm
theorem strOf_toListI (l : List Nat) : (strOf l).toList = l.map UInt8.ofNat := ByteArray.toList_mk _
theorem str_eqI {x y : List Nat} (hx : Byt x) (hy : Byt y) : ((strOf x).toList == (strOf y).toList) = decide (x = y) := by
  rw [strOf_toListI, strOf_toListI]
  by_cases h : x = y
  · rw [decide_eq_true h, h]; simp
  · rw [decide_eq_false h, beq_eq_false_iff_ne]
    exact fun e => h (k8_inj hx hy e)
theorem CbB.newI {w : World} {n : Nat} {T : TypeId} {cs : Array Value} (h : n = w.heap.size) : CbB (w.alloc (.cells cs T)) n T cs := by subst h; exact CbB.new w T cs
/-- an answer, plainly -/
structure AnsP where
  err : Int
  hd : Nat
  sn : Nat
  val : List Nat
  prs : Bk2
  cnt : Int
  lst : List Nat
def errA (e : Int) : AnsP := ⟨e, 0, 0, [], [], 0, []⟩
def hdA (h : Nat) : AnsP := ⟨0, h, 0, [], [], 0, []⟩
/-- a string's bytes, as a conversion lays them: memory of the call's own (marked behind) -/
def KyB (w : World) (C : Nat) (v : Value) (l : List Nat) : Prop := ∃ g n cap cs fr, v = .slice (some ⟨g, 0, none⟩) n cap ∧ C ≤ g ∧ w.heap[g]? = some (.cells cs 5 fr) ∧ IsB w (some ⟨g, 0, none⟩) n cap l
/-- pairs that the call has made: keys and values, bytes of the call's own -/
def PrB (w : World) (C : Nat) (O : Tg) (v : Value) (l : Bk2) : Prop :=
  ∃ vs : List (Value × Value), w.ownsRow C 95 2 v l.length (vs.flatMap fun p => [p.1, p.2]) ∧ (∀ g, v.ownBlock = some g → O g = some (0, 0)) ∧ vs.length = l.length ∧
    ∀ (i : Nat) (p : Value × Value) (q : Ky × List Nat), vs[i]? = some p → l[i]? = some q → (∃ k, KyB w C p.1 k ∧ k8 k = q.1) ∧ OwB w C p.2 q.2 ∧ (∀ g, p.1.ownBlock = some g → O g = some (0, 0)) ∧ (∀ g, p.2.ownBlock = some g → O g = some (0, 0))
structure AnsB (w : World) (C : Nat) (O : Tg) (cs : Array Value) (a : AnsP) : Prop where
  sh : ∃ v p l, cs = #[.int .i64 a.err, .int .u64 (a.hd : Int), .int .u64 (a.sn : Int), v, p, .int .i64 a.cnt, l] ∧ OwB w C v a.val ∧ (∀ g, v.ownBlock = some g → O g = some (0, 0)) ∧ PrB w C O p a.prs ∧ U32.NsB w C l a.lst ∧ (∀ g, l.ownBlock = some g → O g = some (0, 0))
theorem AnsB.flat (w : World) (C : Nat) (O : Tg) (e : Int) (h sn : Nat) (n : Int) : AnsB w C O #[.int .i64 e, .int .u64 (h : Int), .int .u64 (sn : Int), .slice none 0 0, .slice none 0 0, .int .i64 n, .slice none 0 0] ⟨e, h, sn, [], [], n, []⟩ :=
  ⟨_, _, _, rfl, OwB.nil _ _, fun g hg => (by cases hg), ⟨[], World.ownsRow_nil _ _ _ _, fun g hg => (by cases hg), rfl, fun i p q hi => (by simp at hi)⟩, U32.NsB.nil _ _, fun g hg => (by cases hg)⟩
/-- behind a call of a store -/
def DoR (s blocks : Nat) (w : World) (O : Tg) (a : AnsP) (T' : List TnP) (e : Ending) (w' : World) : Prop :=
  ∃ cs O', e = .returned (.agg cs) ∧ AnsB w' w.heap.size O' cs a ∧ IdB w' O' s blocks T' ∧ Stp (fun τ => τ.1 = s) w O w' O'
/-- one tenant is another one -/
def updT (n : Nat) (t' : TnP) (T : List TnP) : List TnP := T.map fun t => if t.n = n then t' else t
section
variable {w w1 : World} {O O1 : Tg} {s blocks m n : Nat} {T : List TnP} {bs : List (Nat × TnP)}
theorem IdM.nodup (h : IdM w O s blocks T m bs) : (bs.map fun x => x.2.n).Nodup := by
  have := h.map.nodup u32_K
  rwa [List.map_map] at this
theorem nodup_one : ∀ {l : List (Nat × TnP)} {x y : Nat × TnP}, (l.map fun x => x.2.n).Nodup → x ∈ l → y ∈ l → x.2.n = y.2.n → x = y
  | p :: r, x, y, hn, hx, hy, e => by
    rw [List.map_cons, List.nodup_cons] at hn
    rcases List.mem_cons.1 hx with e1 | hx2
    · rcases List.mem_cons.1 hy with e2 | hy2
      · rw [e1, e2]
      · exact (hn.1 (List.mem_map.2 ⟨y, hy2, by rw [← e, e1]⟩)).elim
    · rcases List.mem_cons.1 hy with e2 | hy2
      · exact (hn.1 (List.mem_map.2 ⟨x, hx2, by rw [e, e2]⟩)).elim
      · exact nodup_one hn.2 hx2 hy2 e
theorem IdM.upd (h : IdM w O s blocks T m bs) {x : Nat × TnP} (hf : fnd bs n = some x) (k : Stp (fun τ => τ = (s, n)) w O w1 O1) {t' : TnP} (hn : t'.n = n) (hok : TnOk t') (ht : TnB w1 O1 s x.1 t') :
    IdM w1 O1 s blocks (updT n t' T) m (bs.map fun y => if y.2.n = n then (y.1, t') else y) := by
  have h1 : 1 ≤ n := hn ▸ hok.n1
  have n0 : ¬ (s, 0) = (s, n) := fun e => by injection e with _ e; omega
  obtain ⟨hm, hxn⟩ := fnd_mem hf
  refine ⟨(k.ot h.box.lt h.os n0).1.trans h.box, ?_, ?_, fun y hy => ?_, fun y hy => ?_, (k.ot h.box.lt h.os n0).2, (k.ot h.map.lt h.om n0).2, h.pos⟩
  · have := h.map.same (k.ot h.map.lt h.om n0).1
    have e : (bs.map fun y => if y.2.n = n then (y.1, t') else y).map (fun x => (x.2.n, ptrV x.1)) = bs.map fun x => (x.2.n, ptrV x.1) := by
      rw [List.map_map]
      refine List.map_congr_left fun y _ => ?_
      simp only [Function.comp_apply]
      by_cases e : y.2.n = n
      · rw [if_pos e, e]; simp [hn]
      · rw [if_neg e]
    rw [e]
    exact this
  · have e : (bs.map fun y => if y.2.n = n then (y.1, t') else y).map (·.2) = updT n t' (bs.map (·.2)) := by
      unfold updT
      rw [List.map_map, List.map_map]
      refine List.map_congr_left fun y _ => ?_
      simp only [Function.comp_apply]
      by_cases e : y.2.n = n
      · rw [if_pos e, if_pos e]
      · rw [if_neg e, if_neg e]
    rw [e]
    exact h.prm.map _
  · obtain ⟨z, hz, rfl⟩ := List.mem_map.1 hy
    by_cases e : z.2.n = n
    · rw [if_pos e]
      obtain rfl : z = x := nodup_one h.nodup hz hm (e.trans hxn.symm)
      exact ht
    · rw [if_neg e]
      exact (h.all z hz).stp k (fun e2 => e (by injection e2))
  · obtain ⟨z, hz, rfl⟩ := List.mem_map.1 hy
    by_cases e : z.2.n = n
    · rw [if_pos e]; exact hok
    · rw [if_neg e]; exact h.ok z hz
end
/-- tags behind a call on caps: a new map is the tenant's -/
def capTg (O : Tg) (N s n : Nat) (mo' : Option Nat) : Tg := fun k => if N ≤ k ∧ mo' = some k then some (s, n) else O k
theorem caps_step {w w1 : World} {O : Tg} {s b n : Nat} {t : TnP} {c sm nb : Nat} {mo : Option Nat} {es : List (Nat × Value)} (h : TnM w O s b t c mo sm nb es) (hn : t.n = n) {v : Value} {A' : HL} {e : Ending} (hr : CapR 0 c mo w v A' e w1) :
    e = .returned v ∧ ∃ mo' O1, Stp (fun τ => τ = (s, n)) w O w1 O1 ∧ TnM w1 O1 s b ⟨t.n, t.sec, t.q, t.now, A', t.sn, t.tu⟩ c mo' sm nb es := by
  obtain ⟨he, mo', h1, h2, h3⟩ := hr
  subst hn
  have hl := h.caps.lt
  have hcF : ∀ k, capF c mo k → O k = some (s, t.n) := fun k hk => by
    rcases hk with rfl | hk
    · exact h.tc
    · exact h.tm k hk
  have st : Stp (fun τ => τ = (s, t.n)) w O w1 (capTg O w.heap.size s t.n mo') := ⟨h2.imp fun k hk => ⟨_, hcF k hk, rfl⟩, fun k hk => by unfold capTg; rw [if_neg (by omega)]⟩
  have bc : b ≠ c := by
    obtain ⟨l, h4, _⟩ := h.caps.st
    exact cb_neX h.box h4.box (by decide)
  have bm : ∀ k, mo = some k → b ≠ k ∧ sm ≠ k := fun k hk => by
    obtain ⟨l, h4, _⟩ := h.caps.st
    refine ⟨fun e => ?_, fun e => h.ne (by rw [hk, e])⟩
    obtain ⟨es', cl, h5, _⟩ := (h4.map k hk).2
    have hb := h.box
    unfold CbB at hb
    rw [e, h5] at hb
    cases hb
  have sc : sm ≠ c := fun e => by
    obtain ⟨l, h4, _⟩ := h.caps.st
    obtain ⟨es', cl, h5, _⟩ := h.snm
    have hb := h4.box
    unfold CbB at hb
    rw [← e, h5] at hb
    cases hb
  have nF : ∀ k, k ≠ c → (∀ q, mo = some q → k ≠ q) → ¬ capF c mo k := fun k h1 h2 hk => by
    rcases hk with hk | hk
    · exact h1 hk
    · exact h2 k hk rfl
  obtain ⟨es0, l0, hnb, _⟩ := id h.now
  refine ⟨he, mo', _, st, ⟨(h2.block b h.box.lt (nF b bc fun q hq => (bm q hq).1)).trans h.box, h.now.stp h.nowO st, (st.im hnb.lt h.nowO).2, h1,
    h.snm.same (h2.block sm h.snm.lt (nF sm sc fun q hq => (bm q hq).2)), h.sns.stp st, (st.tg b h.box.lt).trans h.tb, (st.tg c hl.1).trans h.tc, fun q hq => ?_, (st.tg sm h.snm.lt).trans h.ts, fun e => ?_⟩⟩
  · rcases h3 with rfl | ⟨q', hq', hge⟩
    · exact (st.tg q (hl.2 q hq)).trans (h.tm q hq)
    · unfold capTg
      rw [hq'] at hq
      injection hq with hq
      subst hq
      rw [if_pos ⟨hge, hq'⟩]
  · rcases h3 with rfl | ⟨q', hq', hge⟩
    · exact h.ne e
    · rw [hq'] at e
      injection e with e
      subst e
      exact absurd h.snm.lt (Nat.not_lt.2 hge)
/-- tags ahead of a call's own boxes: they are nobody's -/
def cutTg (O : Tg) (N : Nat) : Tg := fun k => if k < N then O k else some (0, 0)
section
variable {P : Nat × Nat → Prop} {w w1 w2 : World} {O O1 : Tg}
theorem Stp.cut (hb : Below w.heap.size w w1) (P : Nat × Nat → Prop) : Stp P w O w1 (cutTg O w.heap.size) := Stp.of hb P fun k hk => by unfold cutTg; rw [if_pos hk]
theorem Stp.fresh (h : Stp P w O w1 O1) {g : Nat} (k : Fr w1 w2 (fun q => q = g)) (hg : w.heap.size ≤ g) : Stp P w O w2 O1 :=
  ⟨⟨k.os.trans h.fr.os, k.tape.trans h.fr.tape, k.output.trans h.fr.output, Nat.le_trans h.size k.size, fun i hi hn => (k.block i (Nat.lt_of_lt_of_le hi h.size) (by omega)).trans (h.fr.block i hi hn)⟩, h.tg⟩
theorem Stp.box {g : Nat} (k : Fr w1 w2 (fun q => q = g)) (hg : O1 g = some (0, 0)) : Stp (fun τ => τ = (0, 0)) w1 O1 w2 O1 := ⟨k.imp fun q hq => ⟨_, hq ▸ hg, rfl⟩, fun _ _ => rfl⟩
theorem Stp.ab (h : Stp P w O w1 O1) (hb : Below w1.heap.size w1 w2) : Stp P w O w2 O1 := h.tr (Stp.of hb P fun _ _ => rfl)
theorem cutTg_at {N k : Nat} (h : N ≤ k) : cutTg O N k = some (0, 0) := by unfold cutTg; rw [if_neg (by omega)]
end
/-- an answer without memory -/
theorem DoR.flat {s blocks : Nat} {w w' : World} {O O' : Tg} {T' : List TnP} (e : Int) (h sn : Nat) (n : Int) (hi : IdB w' O' s blocks T') (hs : Stp (fun τ => τ.1 = s) w O w' O') :
    DoR s blocks w O ⟨e, h, sn, [], [], n, []⟩ T' (.returned (.agg #[.int .i64 e, .int .u64 (h : Int), .int .u64 (sn : Int), .slice none 0 0, .slice none 0 0, .int .i64 n, .slice none 0 0])) w' :=
  ⟨_, O', rfl, AnsB.flat _ _ _ _ _ _ _, hi, hs⟩
end Go.Proofs.YtnnjmelibmiimaaGreat
namespace Go.Proofs.YtnnjmelibmiimaaGreat
open Go.RowKit
set_option linter.unusedVariables false
set_option linter.unusedSimpArgs false

section
variable {w : World} {O : Tg} {s blocks m : Nat} {T : List TnP} {bs : List (Nat × TnP)} {c : CallP}
theorem fr_rowX (w : World) (g : Nat) (cs : Array Value) : Fr w (w.setRow g cs) (fun q => q = g) := ⟨rfl, rfl, rfl, by simp, fun k _ hk => setRow_other w g k cs hk⟩
set_option maxRecDepth 100000 in
theorem attach_none (h : IdM w O s blocks T m bs) (hc : c.Ok) (hf : fnd bs c.ten = none) :
    Calls Tryz.prog 46 #[.pointer (some ⟨s, 0, none⟩), .agg c.cs] w (DoR s blocks w O (errA 7) T) := by
  have ha : Below w.heap.size w ((w.alloc (.cells #[.int .i64 c.kind, .int .u32 (c.ten : Int), .slice c.sec.A c.sec.n c.sec.c, .int .i64 c.quota, .int .i64 c.n, .int .u64 (c.hd : Int), .int .u64 (c.oth : Int), .int .u64 (c.sn : Int), .int .u8 (c.rt : Int), .slice c.oA c.oN c.oC, .slice c.key.A c.key.n c.key.c, .slice c.frm.A c.frm.n c.frm.c, .slice c.upto.A c.upto.n c.upto.c, .bool c.back] 36)).alloc (.cells #[.int .i64 0, .int .u64 0, .int .u64 0, .slice none 0 0, .slice none 0 0, .int .i64 0, .slice none 0 0] 40)) := ((Below.refl _ _).alloc (Nat.le_refl _) _).alloc (by simp) _
  have hcb : CbB ((w.alloc (.cells #[.int .i64 c.kind, .int .u32 (c.ten : Int), .slice c.sec.A c.sec.n c.sec.c, .int .i64 c.quota, .int .i64 c.n, .int .u64 (c.hd : Int), .int .u64 (c.oth : Int), .int .u64 (c.sn : Int), .int .u8 (c.rt : Int), .slice c.oA c.oN c.oC, .slice c.key.A c.key.n c.key.c, .slice c.frm.A c.frm.n c.frm.c, .slice c.upto.A c.upto.n c.upto.c, .bool c.back] 36)).alloc (.cells #[.int .i64 0, .int .u64 0, .int .u64 0, .slice none 0 0, .slice none 0 0, .int .i64 0, .slice none 0 0] 40)) w.heap.size 36 c.cs := (CbB.new w _ _).ab ((Below.refl _ _).alloc (Nat.le_refl _) _)
  have hqb : CbB ((w.alloc (.cells #[.int .i64 c.kind, .int .u32 (c.ten : Int), .slice c.sec.A c.sec.n c.sec.c, .int .i64 c.quota, .int .i64 c.n, .int .u64 (c.hd : Int), .int .u64 (c.oth : Int), .int .u64 (c.sn : Int), .int .u8 (c.rt : Int), .slice c.oA c.oN c.oC, .slice c.key.A c.key.n c.key.c, .slice c.frm.A c.frm.n c.frm.c, .slice c.upto.A c.upto.n c.upto.c, .bool c.back] 36)).alloc (.cells #[.int .i64 0, .int .u64 0, .int .u64 0, .slice none 0 0, .slice none 0 0, .int .i64 0, .slice none 0 0] 40)) (w.heap.size + 1) 40 (ansE 0) := CbB.newI (by simp)
  unfold CallP.cs at hcb ⊢
  go_enter Tryz.func46, Tryz.ntmps46
  go_upto_region 1 with (fail)
  obtain ⟨w0, hw0⟩ : ∃ w0, ((w.alloc (.cells #[.int .i64 c.kind, .int .u32 (c.ten : Int), .slice c.sec.A c.sec.n c.sec.c, .int .i64 c.quota, .int .i64 c.n, .int .u64 (c.hd : Int), .int .u64 (c.oth : Int), .int .u64 (c.sn : Int), .int .u8 (c.rt : Int), .slice c.oA c.oN c.oC, .slice c.key.A c.key.n c.key.c, .slice c.frm.A c.frm.n c.frm.c, .slice c.upto.A c.upto.n c.upto.c, .bool c.back] 36)).alloc (.cells #[.int .i64 0, .int .u64 0, .int .u64 0, .slice none 0 0, .slice none 0 0, .int .i64 0, .slice none 0 0] 40)) = w0 := ⟨_, rfl⟩
  rw [hw0] at ha hcb hqb ⊢
  clear hw0
  have hlk := fun k : Nat => map_look (w := w0.drewN k) ((h.map.ab ha).same rfl) (n := c.ten) hc.ten
  simp only [hf, Option.map_none] at hlk
  have c1 := (h.box.ab ha).cell (k := 1) rfl
  have c5 := hcb.cell (k := 1) rfl
  have HA := Lib.hid ha
  have HM := Lib.hid (h.stp (Stp.cut ha (fun _ => False)) fun _ h => h)
  have HQ := Lib.hid hqb
  have HF := Lib.hid fun W => fails_any 7 W
  clear h ha hqb hcb hf hc
  go_quiet (fail)
  go_wp2_with fail
  refine (HF.out _).mono ?_
  rintro e w1 ⟨rfl, hb⟩
  have B1 : Hid (Below w0.heap.size w0 w1) := Lib.hid ((bel_drewN (Below.refl _ _) _).trans hb)
  have Q1 := Lib.hid (HQ.out.ab B1.out)
  have M1 := Lib.hid (HM.out.stp (Stp.of B1.out (fun _ => False) fun _ _ => rfl) fun _ h => h)
  have S1 : Hid (Stp (fun τ => τ.1 = s) w O w1 (cutTg O w.heap.size)) := Lib.hid ((Stp.cut HA.out _).ab B1.out)
  clear hb HQ HM B1
  go_wp2_with (first
    | (with_reducible refine wpList_storeC (o := ⟨none, .store _ (.tmp 4) (.tmp 18), _, _, _, _⟩) ?_ 40 (.tmp 4) (.tmp 18) ?_ (w.heap.size + 1) ?_ (ansE 7) ?_ (cs := ansE 0) (t := 40) Q1.out (szAnsE _) ?_ (ansE_one _) ?_
       · rfl
       · rfl
       · rfl
       · rfl
       · rfl
       intro wz hwz
       have QZ : Hid (CbB wz (w.heap.size + 1) 40 (ansE 7)) := Lib.hid (by rw [hwz]; exact CbB.row Q1.out _)
       have FZ : Hid (Fr w1 wz (fun k => k = (w.heap.size + 1))) := Lib.hid (by rw [hwz]; exact fr_rowX _ _ _)
       clear hwz))
  refine bodyPost_ret (ans_results Tryz.results46 _ _ (w.heap.size + 1) (ansE 7) rfl QZ.out rfl) rfl ?_
  exact DoR.flat 7 0 0 0 ⟨m, bs, M1.out.stp (Stp.box FZ.out (cutTg_at (Nat.le_succ _))) fun i e => by have := M1.out.pos; injection e with e; omega⟩ (S1.out.fresh FZ.out (Nat.le_succ _))
set_option maxRecDepth 100000 in
theorem attach_sec (x : Nat × TnP) (h : IdM w O s blocks T m bs) (hc : c.Ok) (hf : fnd bs c.ten = some x) (hs : IsB w c.sec.A c.sec.n c.sec.c c.sec.l) (hne : c.sec.l ≠ x.2.sec) :
    Calls Tryz.prog 46 #[.pointer (some ⟨s, 0, none⟩), .agg c.cs] w (DoR s blocks w O (errA 260) T) := by
  have hx := fnd_mem hf
  obtain ⟨cb, mo, sm, nb, es, ht⟩ := h.all x hx.1
  have ha : Below w.heap.size w ((w.alloc (.cells #[.int .i64 c.kind, .int .u32 (c.ten : Int), .slice c.sec.A c.sec.n c.sec.c, .int .i64 c.quota, .int .i64 c.n, .int .u64 (c.hd : Int), .int .u64 (c.oth : Int), .int .u64 (c.sn : Int), .int .u8 (c.rt : Int), .slice c.oA c.oN c.oC, .slice c.key.A c.key.n c.key.c, .slice c.frm.A c.frm.n c.frm.c, .slice c.upto.A c.upto.n c.upto.c, .bool c.back] 36)).alloc (.cells #[.int .i64 0, .int .u64 0, .int .u64 0, .slice none 0 0, .slice none 0 0, .int .i64 0, .slice none 0 0] 40)) := ((Below.refl _ _).alloc (Nat.le_refl _) _).alloc (by simp) _
  have hcb : CbB ((w.alloc (.cells #[.int .i64 c.kind, .int .u32 (c.ten : Int), .slice c.sec.A c.sec.n c.sec.c, .int .i64 c.quota, .int .i64 c.n, .int .u64 (c.hd : Int), .int .u64 (c.oth : Int), .int .u64 (c.sn : Int), .int .u8 (c.rt : Int), .slice c.oA c.oN c.oC, .slice c.key.A c.key.n c.key.c, .slice c.frm.A c.frm.n c.frm.c, .slice c.upto.A c.upto.n c.upto.c, .bool c.back] 36)).alloc (.cells #[.int .i64 0, .int .u64 0, .int .u64 0, .slice none 0 0, .slice none 0 0, .int .i64 0, .slice none 0 0] 40)) w.heap.size 36 c.cs := (CbB.new w _ _).ab ((Below.refl _ _).alloc (Nat.le_refl _) _)
  have hqb : CbB ((w.alloc (.cells #[.int .i64 c.kind, .int .u32 (c.ten : Int), .slice c.sec.A c.sec.n c.sec.c, .int .i64 c.quota, .int .i64 c.n, .int .u64 (c.hd : Int), .int .u64 (c.oth : Int), .int .u64 (c.sn : Int), .int .u8 (c.rt : Int), .slice c.oA c.oN c.oC, .slice c.key.A c.key.n c.key.c, .slice c.frm.A c.frm.n c.frm.c, .slice c.upto.A c.upto.n c.upto.c, .bool c.back] 36)).alloc (.cells #[.int .i64 0, .int .u64 0, .int .u64 0, .slice none 0 0, .slice none 0 0, .int .i64 0, .slice none 0 0] 40)) (w.heap.size + 1) 40 (ansE 0) := CbB.newI (by simp)
  unfold CallP.cs at hcb ⊢
  go_enter Tryz.func46, Tryz.ntmps46
  go_upto_region 1 with (fail)
  obtain ⟨w0, hw0⟩ : ∃ w0, ((w.alloc (.cells #[.int .i64 c.kind, .int .u32 (c.ten : Int), .slice c.sec.A c.sec.n c.sec.c, .int .i64 c.quota, .int .i64 c.n, .int .u64 (c.hd : Int), .int .u64 (c.oth : Int), .int .u64 (c.sn : Int), .int .u8 (c.rt : Int), .slice c.oA c.oN c.oC, .slice c.key.A c.key.n c.key.c, .slice c.frm.A c.frm.n c.frm.c, .slice c.upto.A c.upto.n c.upto.c, .bool c.back] 36)).alloc (.cells #[.int .i64 0, .int .u64 0, .int .u64 0, .slice none 0 0, .slice none 0 0, .int .i64 0, .slice none 0 0] 40)) = w0 := ⟨_, rfl⟩
  rw [hw0] at ha hcb hqb ⊢
  clear hw0
  have hlk := fun k : Nat => map_look (w := w0.drewN k) ((h.map.ab ha).same rfl) (n := c.ten) hc.ten
  simp only [hf, Option.map_some] at hlk
  have c1 := (h.box.ab ha).cell (k := 1) rfl
  have c5 := hcb.cell (k := 1) rfl
  have c2 := hcb.cell (k := 2) rfl
  have d0 := (ht.box.ab ha).cell (k := 0) rfl
  have hst := fun k : Nat => run_str ((hs.ab ha).drewN k) 31 5 9 Tryz.underlying31 Tryz.underlying5 Tryz.underlying9
  have hse : ((strOf c.sec.l).toList == (strOf x.2.sec).toList) = false := by rw [str_eqI hs.2 (h.ok x hx.1).sec]; simpa using hne
  have HA := Lib.hid ha
  have HM := Lib.hid (h.stp (Stp.cut ha (fun _ => False)) fun _ h => h)
  have HQ := Lib.hid hqb
  have HF := Lib.hid fun W => fails_any 260 W
  clear h ha hqb hcb hf hc hs hne ht hx
  go_quiet (fail)
  go_wp2_with fail
  go_quiet (fail)
  go_wp2_with fail
  refine (HF.out _).mono ?_
  rintro e w1 ⟨rfl, hb⟩
  have B1 : Hid (Below w0.heap.size w0 w1) := Lib.hid ((bel_drewN (Below.refl _ _) _).trans hb)
  have Q1 := Lib.hid (HQ.out.ab B1.out)
  have M1 := Lib.hid (HM.out.stp (Stp.of B1.out (fun _ => False) fun _ _ => rfl) fun _ h => h)
  have S1 : Hid (Stp (fun τ => τ.1 = s) w O w1 (cutTg O w.heap.size)) := Lib.hid ((Stp.cut HA.out _).ab B1.out)
  clear hb HQ HM B1
  go_wp2_with (first
    | (with_reducible refine wpList_storeC (o := ⟨none, .store _ (.tmp 4) (.tmp 28), _, _, _, _⟩) ?_ 40 (.tmp 4) (.tmp 28) ?_ (w.heap.size + 1) ?_ (ansE 260) ?_ (cs := ansE 0) (t := 40) Q1.out (szAnsE _) ?_ (ansE_one _) ?_
       · rfl
       · rfl
       · rfl
       · rfl
       · rfl
       intro wz hwz
       have QZ : Hid (CbB wz (w.heap.size + 1) 40 (ansE 260)) := Lib.hid (by rw [hwz]; exact CbB.row Q1.out _)
       have FZ : Hid (Fr w1 wz (fun k => k = (w.heap.size + 1))) := Lib.hid (by rw [hwz]; exact fr_rowX _ _ _)
       clear hwz))
  refine bodyPost_ret (ans_results Tryz.results46 _ _ (w.heap.size + 1) (ansE 260) rfl QZ.out rfl) rfl ?_
  exact DoR.flat 260 0 0 0 ⟨m, bs, M1.out.stp (Stp.box FZ.out (cutTg_at (Nat.le_succ _))) fun i e => by have := M1.out.pos; injection e with e; omega⟩ (S1.out.fresh FZ.out (Nat.le_succ _))
def attT (t : TnP) : TnP := ⟨t.n, t.sec, t.q, t.now, (putH t.A 15 0).2, t.sn, t.tu⟩
theorem ansH_one (e : Nat) : (ansH e).all (·.oneCell') = true := by simp [ansH, Value.oneCell']
theorem szAnsH (e : Nat) : (Tryz.prog.info? 40).map (·.size) = some (ansH e).size := szAns
set_option maxRecDepth 100000 in
set_option maxHeartbeats 1000000 in
theorem attach_yes (x : Nat × TnP) (h : IdM w O s blocks T m bs) (hc : c.Ok) (hf : fnd bs c.ten = some x) (hs : IsB w c.sec.A c.sec.n c.sec.c c.sec.l) (he : c.sec.l = x.2.sec) (hl : x.2.A.length < 1000000) (hp : (putH x.2.A 15 0).1 = (x.2.A.length + 1, 0)) :
    Calls Tryz.prog 46 #[.pointer (some ⟨s, 0, none⟩), .agg c.cs] w (DoR s blocks w O (hdA (c.ten * 4294967296 + (x.2.A.length + 1))) (updT c.ten (attT x.2) T)) := by
  have hx := fnd_mem hf
  obtain ⟨cb, mo, sm, nb, es, ht⟩ := h.all x hx.1
  have ha : Below w.heap.size w ((w.alloc (.cells #[.int .i64 c.kind, .int .u32 (c.ten : Int), .slice c.sec.A c.sec.n c.sec.c, .int .i64 c.quota, .int .i64 c.n, .int .u64 (c.hd : Int), .int .u64 (c.oth : Int), .int .u64 (c.sn : Int), .int .u8 (c.rt : Int), .slice c.oA c.oN c.oC, .slice c.key.A c.key.n c.key.c, .slice c.frm.A c.frm.n c.frm.c, .slice c.upto.A c.upto.n c.upto.c, .bool c.back] 36)).alloc (.cells #[.int .i64 0, .int .u64 0, .int .u64 0, .slice none 0 0, .slice none 0 0, .int .i64 0, .slice none 0 0] 40)) := ((Below.refl _ _).alloc (Nat.le_refl _) _).alloc (by simp) _
  have hcb : CbB ((w.alloc (.cells #[.int .i64 c.kind, .int .u32 (c.ten : Int), .slice c.sec.A c.sec.n c.sec.c, .int .i64 c.quota, .int .i64 c.n, .int .u64 (c.hd : Int), .int .u64 (c.oth : Int), .int .u64 (c.sn : Int), .int .u8 (c.rt : Int), .slice c.oA c.oN c.oC, .slice c.key.A c.key.n c.key.c, .slice c.frm.A c.frm.n c.frm.c, .slice c.upto.A c.upto.n c.upto.c, .bool c.back] 36)).alloc (.cells #[.int .i64 0, .int .u64 0, .int .u64 0, .slice none 0 0, .slice none 0 0, .int .i64 0, .slice none 0 0] 40)) w.heap.size 36 c.cs := (CbB.new w _ _).ab ((Below.refl _ _).alloc (Nat.le_refl _) _)
  have hqb : CbB ((w.alloc (.cells #[.int .i64 c.kind, .int .u32 (c.ten : Int), .slice c.sec.A c.sec.n c.sec.c, .int .i64 c.quota, .int .i64 c.n, .int .u64 (c.hd : Int), .int .u64 (c.oth : Int), .int .u64 (c.sn : Int), .int .u8 (c.rt : Int), .slice c.oA c.oN c.oC, .slice c.key.A c.key.n c.key.c, .slice c.frm.A c.frm.n c.frm.c, .slice c.upto.A c.upto.n c.upto.c, .bool c.back] 36)).alloc (.cells #[.int .i64 0, .int .u64 0, .int .u64 0, .slice none 0 0, .slice none 0 0, .int .i64 0, .slice none 0 0] 40)) (w.heap.size + 1) 40 (ansE 0) := CbB.newI (by simp)
  unfold CallP.cs at hcb ⊢
  go_enter Tryz.func46, Tryz.ntmps46
  go_upto_region 1 with (fail)
  obtain ⟨w0, hw0⟩ : ∃ w0, ((w.alloc (.cells #[.int .i64 c.kind, .int .u32 (c.ten : Int), .slice c.sec.A c.sec.n c.sec.c, .int .i64 c.quota, .int .i64 c.n, .int .u64 (c.hd : Int), .int .u64 (c.oth : Int), .int .u64 (c.sn : Int), .int .u8 (c.rt : Int), .slice c.oA c.oN c.oC, .slice c.key.A c.key.n c.key.c, .slice c.frm.A c.frm.n c.frm.c, .slice c.upto.A c.upto.n c.upto.c, .bool c.back] 36)).alloc (.cells #[.int .i64 0, .int .u64 0, .int .u64 0, .slice none 0 0, .slice none 0 0, .int .i64 0, .slice none 0 0] 40)) = w0 := ⟨_, rfl⟩
  rw [hw0] at ha hcb hqb ⊢
  clear hw0
  have hlk := fun k : Nat => map_look (w := w0.drewN k) ((h.map.ab ha).same rfl) (n := c.ten) hc.ten
  simp only [hf, Option.map_some] at hlk
  have c1 := (h.box.ab ha).cell (k := 1) rfl
  have c5 := hcb.cell (k := 1) rfl
  have c2 := hcb.cell (k := 2) rfl
  have d0 := (ht.box.ab ha).cell (k := 0) rfl
  have d3 := (ht.box.ab ha).cell (k := 3) rfl
  have hst := fun k : Nat => run_str ((hs.ab ha).drewN k) 31 5 9 Tryz.underlying31 Tryz.underlying5 Tryz.underlying9
  have hse : ((strOf c.sec.l).toList == (strOf x.2.sec).toList) = true := by rw [str_eqI hs.2 (h.ok x hx.1).sec]; simpa using he
  have M0 : ∀ k, IdM (w0.drewN k) (cutTg O w.heap.size) s blocks T m bs := fun k => h.stp (Stp.cut (bel_drewN ha k) (fun _ => False)) fun _ h => h
  have T0 : ∀ k, TnM (w0.drewN k) (cutTg O w.heap.size) s x.1 x.2 cb mo sm nb es := fun k => ht.stp (Stp.cut (bel_drewN ha k) (fun _ => False)) fun h => h
  have HA := Lib.hid ha
  have HQ := Lib.hid hqb
  have HB := Lib.hid hcb
  have HM := Lib.hid M0
  have HT := Lib.hid T0
  have HC := Lib.hid fun k => attachA_any (T0 k).caps hl
  have HH := Lib.hid fun W => handle_yes c.ten (x.2.A.length + 1) hc.ten (by omega) W
  have HP := Lib.hid hp
  have HX := Lib.hid hx.2
  have HN : Hid (TnOk (attT x.2)) := Lib.hid ⟨(h.ok x hx.1).n1, (h.ok x hx.1).n32, (h.ok x hx.1).sec, (h.ok x hx.1).q1, (h.ok x hx.1).q2⟩
  have HF := Lib.hid hf
  clear h ha hqb hcb hf hc hs he ht hx M0 T0 hp hl
  go_quiet (fail)
  go_wp2_with fail
  go_quiet (fail)
  go_wp2_with fail
  refine (HC.out _).mono ?_
  intro e w1 hr
  obtain ⟨rfl, mo', O1, k1, t1⟩ := caps_step (HT.out _) HX.out hr
  rw [HP.out]
  dsimp only
  have K1 := Lib.hid k1
  have M1 := Lib.hid ((HM.out _).upd (t' := attT x.2) HF.out k1 HX.out HN.out ⟨_, _, _, _, _, t1⟩)
  have Q1 : Hid (CbB w1 (w.heap.size + 1) 40 (ansE 0)) := Lib.hid ((k1.ot (k := w.heap.size + 1) (by have := HQ.out.lt; exact this) (cutTg_at (Nat.le_succ _)) (fun e => by injection e with _ e; have := (HN.out).n1; have := HX.out; simp only [attT] at *; omega)).1.trans HQ.out)
  have G1 : Hid (O1 (w.heap.size + 1) = some (0, 0)) := Lib.hid ((k1.tg _ (by have := HQ.out.lt; exact this)).trans (cutTg_at (Nat.le_succ _)))
  have c5' : w1.cell? ⟨w.heap.size, 1, none⟩ = some (.int .u32 (c.ten : Int)) := (show CbB w1 w.heap.size _ _ from ((k1.ot (k := w.heap.size) (by have := HB.out.lt; exact this) (cutTg_at (Nat.le_refl _)) (fun e => by injection e with _ e; have := (HN.out).n1; have := HX.out; simp only [attT] at *; omega)).1.trans HB.out)).cell (k := 1) rfl
  have S1 : Hid (Stp (fun τ => τ.1 = s) w O w1 O1) := Lib.hid (((Stp.cut HA.out _).ab (bel_drewN (Below.refl _ _) _)).tr (k1.imp fun τ e => by rw [e]))
  clear k1 t1 hr HC HT HM HQ HF hlk hst
  go_wp2_with fail
  refine (HH.out _).mono ?_
  rintro e w2 ⟨rfl, hb⟩
  have Q2 := Lib.hid (Q1.out.ab hb)
  have M2 := Lib.hid (M1.out.stp (Stp.of hb (fun _ => False) fun _ _ => rfl) fun _ h => h)
  have S2 := Lib.hid (S1.out.ab hb)
  clear hb Q1 M1 S1 HH
  go_wp2_with (first
    | (with_reducible refine wpList_storeC (o := ⟨none, .store _ (.tmp 4) (.tmp 41), _, _, _, _⟩) ?_ 40 (.tmp 4) (.tmp 41) ?_ (w.heap.size + 1) ?_ (ansH (c.ten * 4294967296 + (x.2.A.length + 1))) ?_ (cs := ansE 0) (t := 40) Q2.out (szAnsH _) ?_ (ansH_one _) ?_
       · rfl
       · rfl
       · rfl
       · rfl
       · rfl
       intro wz hwz
       have QZ : Hid (CbB wz (w.heap.size + 1) 40 (ansH (c.ten * 4294967296 + (x.2.A.length + 1)))) := Lib.hid (by rw [hwz]; exact CbB.row Q2.out _)
       have FZ : Hid (Fr w2 wz (fun k => k = (w.heap.size + 1))) := Lib.hid (by rw [hwz]; exact fr_rowX _ _ _)
       clear hwz))
  refine bodyPost_ret (ans_results Tryz.results46 _ _ (w.heap.size + 1) (ansH (c.ten * 4294967296 + (x.2.A.length + 1))) rfl QZ.out rfl) rfl ?_
  exact DoR.flat 0 (c.ten * 4294967296 + (x.2.A.length + 1)) 0 0 ⟨m, _, M2.out.stp (Stp.box FZ.out G1.out) fun i e => by have := M2.out.pos; injection e with e; omega⟩ (S2.out.fresh FZ.out (Nat.le_succ _))
set_option maxRecDepth 100000 in
set_option maxHeartbeats 1000000 in
theorem attach_full (x : Nat × TnP) (h : IdM w O s blocks T m bs) (hc : c.Ok) (hf : fnd bs c.ten = some x) (hs : IsB w c.sec.A c.sec.n c.sec.c c.sec.l) (he : c.sec.l = x.2.sec) (hl : x.2.A.length < 1000000) (hp : putH x.2.A 15 0 = ((0, 9), x.2.A)) :
    Calls Tryz.prog 46 #[.pointer (some ⟨s, 0, none⟩), .agg c.cs] w (DoR s blocks w O (errA 9) (updT c.ten (attT x.2) T)) := by
  have hx := fnd_mem hf
  obtain ⟨cb, mo, sm, nb, es, ht⟩ := h.all x hx.1
  have ha : Below w.heap.size w ((w.alloc (.cells #[.int .i64 c.kind, .int .u32 (c.ten : Int), .slice c.sec.A c.sec.n c.sec.c, .int .i64 c.quota, .int .i64 c.n, .int .u64 (c.hd : Int), .int .u64 (c.oth : Int), .int .u64 (c.sn : Int), .int .u8 (c.rt : Int), .slice c.oA c.oN c.oC, .slice c.key.A c.key.n c.key.c, .slice c.frm.A c.frm.n c.frm.c, .slice c.upto.A c.upto.n c.upto.c, .bool c.back] 36)).alloc (.cells #[.int .i64 0, .int .u64 0, .int .u64 0, .slice none 0 0, .slice none 0 0, .int .i64 0, .slice none 0 0] 40)) := ((Below.refl _ _).alloc (Nat.le_refl _) _).alloc (by simp) _
  have hcb : CbB ((w.alloc (.cells #[.int .i64 c.kind, .int .u32 (c.ten : Int), .slice c.sec.A c.sec.n c.sec.c, .int .i64 c.quota, .int .i64 c.n, .int .u64 (c.hd : Int), .int .u64 (c.oth : Int), .int .u64 (c.sn : Int), .int .u8 (c.rt : Int), .slice c.oA c.oN c.oC, .slice c.key.A c.key.n c.key.c, .slice c.frm.A c.frm.n c.frm.c, .slice c.upto.A c.upto.n c.upto.c, .bool c.back] 36)).alloc (.cells #[.int .i64 0, .int .u64 0, .int .u64 0, .slice none 0 0, .slice none 0 0, .int .i64 0, .slice none 0 0] 40)) w.heap.size 36 c.cs := (CbB.new w _ _).ab ((Below.refl _ _).alloc (Nat.le_refl _) _)
  have hqb : CbB ((w.alloc (.cells #[.int .i64 c.kind, .int .u32 (c.ten : Int), .slice c.sec.A c.sec.n c.sec.c, .int .i64 c.quota, .int .i64 c.n, .int .u64 (c.hd : Int), .int .u64 (c.oth : Int), .int .u64 (c.sn : Int), .int .u8 (c.rt : Int), .slice c.oA c.oN c.oC, .slice c.key.A c.key.n c.key.c, .slice c.frm.A c.frm.n c.frm.c, .slice c.upto.A c.upto.n c.upto.c, .bool c.back] 36)).alloc (.cells #[.int .i64 0, .int .u64 0, .int .u64 0, .slice none 0 0, .slice none 0 0, .int .i64 0, .slice none 0 0] 40)) (w.heap.size + 1) 40 (ansE 0) := CbB.newI (by simp)
  unfold CallP.cs at hcb ⊢
  go_enter Tryz.func46, Tryz.ntmps46
  go_upto_region 1 with (fail)
  obtain ⟨w0, hw0⟩ : ∃ w0, ((w.alloc (.cells #[.int .i64 c.kind, .int .u32 (c.ten : Int), .slice c.sec.A c.sec.n c.sec.c, .int .i64 c.quota, .int .i64 c.n, .int .u64 (c.hd : Int), .int .u64 (c.oth : Int), .int .u64 (c.sn : Int), .int .u8 (c.rt : Int), .slice c.oA c.oN c.oC, .slice c.key.A c.key.n c.key.c, .slice c.frm.A c.frm.n c.frm.c, .slice c.upto.A c.upto.n c.upto.c, .bool c.back] 36)).alloc (.cells #[.int .i64 0, .int .u64 0, .int .u64 0, .slice none 0 0, .slice none 0 0, .int .i64 0, .slice none 0 0] 40)) = w0 := ⟨_, rfl⟩
  rw [hw0] at ha hcb hqb ⊢
  clear hw0
  have hlk := fun k : Nat => map_look (w := w0.drewN k) ((h.map.ab ha).same rfl) (n := c.ten) hc.ten
  simp only [hf, Option.map_some] at hlk
  have c1 := (h.box.ab ha).cell (k := 1) rfl
  have c5 := hcb.cell (k := 1) rfl
  have c2 := hcb.cell (k := 2) rfl
  have d0 := (ht.box.ab ha).cell (k := 0) rfl
  have d3 := (ht.box.ab ha).cell (k := 3) rfl
  have hst := fun k : Nat => run_str ((hs.ab ha).drewN k) 31 5 9 Tryz.underlying31 Tryz.underlying5 Tryz.underlying9
  have hse : ((strOf c.sec.l).toList == (strOf x.2.sec).toList) = true := by rw [str_eqI hs.2 (h.ok x hx.1).sec]; simpa using he
  have M0 : ∀ k, IdM (w0.drewN k) (cutTg O w.heap.size) s blocks T m bs := fun k => h.stp (Stp.cut (bel_drewN ha k) (fun _ => False)) fun _ h => h
  have T0 : ∀ k, TnM (w0.drewN k) (cutTg O w.heap.size) s x.1 x.2 cb mo sm nb es := fun k => ht.stp (Stp.cut (bel_drewN ha k) (fun _ => False)) fun h => h
  have HA := Lib.hid ha
  have HQ := Lib.hid hqb
  have HB := Lib.hid hcb
  have HM := Lib.hid M0
  have HT := Lib.hid T0
  have HC := Lib.hid fun k => attachA_any (T0 k).caps hl
  have HH := Lib.hid fun W => handle_no c.ten 0 9 (by decide) W
  have HP := Lib.hid hp
  have HX := Lib.hid hx.2
  have HN : Hid (TnOk (attT x.2)) := Lib.hid ⟨(h.ok x hx.1).n1, (h.ok x hx.1).n32, (h.ok x hx.1).sec, (h.ok x hx.1).q1, (h.ok x hx.1).q2⟩
  have HF := Lib.hid hf
  clear h ha hqb hcb hf hc hs he ht hx M0 T0 hp hl
  go_quiet (fail)
  go_wp2_with fail
  go_quiet (fail)
  go_wp2_with fail
  refine (HC.out _).mono ?_
  intro e w1 hr
  obtain ⟨rfl, mo', O1, k1, t1⟩ := caps_step (HT.out _) HX.out hr
  rw [HP.out]
  dsimp only
  have K1 := Lib.hid k1
  have M1 := Lib.hid ((HM.out _).upd (t' := attT x.2) HF.out k1 HX.out HN.out ⟨_, _, _, _, _, t1⟩)
  have Q1 : Hid (CbB w1 (w.heap.size + 1) 40 (ansE 0)) := Lib.hid ((k1.ot (k := w.heap.size + 1) (by have := HQ.out.lt; exact this) (cutTg_at (Nat.le_succ _)) (fun e => by injection e with _ e; have := (HN.out).n1; have := HX.out; simp only [attT] at *; omega)).1.trans HQ.out)
  have G1 : Hid (O1 (w.heap.size + 1) = some (0, 0)) := Lib.hid ((k1.tg _ (by have := HQ.out.lt; exact this)).trans (cutTg_at (Nat.le_succ _)))
  have c5' : w1.cell? ⟨w.heap.size, 1, none⟩ = some (.int .u32 (c.ten : Int)) := (show CbB w1 w.heap.size _ _ from ((k1.ot (k := w.heap.size) (by have := HB.out.lt; exact this) (cutTg_at (Nat.le_refl _)) (fun e => by injection e with _ e; have := (HN.out).n1; have := HX.out; simp only [attT] at *; omega)).1.trans HB.out)).cell (k := 1) rfl
  have S1 : Hid (Stp (fun τ => τ.1 = s) w O w1 O1) := Lib.hid (((Stp.cut HA.out _).ab (bel_drewN (Below.refl _ _) _)).tr (k1.imp fun τ e => by rw [e]))
  clear k1 t1 hr HC HT HM HQ HF hlk hst
  go_wp2_with fail
  refine (HH.out _).mono ?_
  rintro e w2 ⟨rfl, hb⟩
  have Q2 := Lib.hid (Q1.out.ab hb)
  have M2 := Lib.hid (M1.out.stp (Stp.of hb (fun _ => False) fun _ _ => rfl) fun _ h => h)
  have S2 := Lib.hid (S1.out.ab hb)
  clear hb Q1 M1 S1 HH
  go_wp2_with (first
    | (with_reducible refine wpList_storeC (o := ⟨none, .store _ (.tmp 4) (.tmp 41), _, _, _, _⟩) ?_ 40 (.tmp 4) (.tmp 41) ?_ (w.heap.size + 1) ?_ (ansE 9) ?_ (cs := ansE 0) (t := 40) Q2.out (szAnsE _) ?_ (ansE_one _) ?_
       · rfl
       · rfl
       · rfl
       · rfl
       · rfl
       intro wz hwz
       have QZ : Hid (CbB wz (w.heap.size + 1) 40 (ansE 9)) := Lib.hid (by rw [hwz]; exact CbB.row Q2.out _)
       have FZ : Hid (Fr w2 wz (fun k => k = (w.heap.size + 1))) := Lib.hid (by rw [hwz]; exact fr_rowX _ _ _)
       clear hwz))
  refine bodyPost_ret (ans_results Tryz.results46 _ _ (w.heap.size + 1) (ansE 9) rfl QZ.out rfl) rfl ?_
  exact DoR.flat 9 0 0 0 ⟨m, _, M2.out.stp (Stp.box FZ.out G1.out) fun i e => by have := M2.out.pos; injection e with e; omega⟩ (S2.out.fresh FZ.out (Nat.le_succ _))
end
end Go.Proofs.YtnnjmelibmiimaaGreat
