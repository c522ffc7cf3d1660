/-
  FOR THE LAWS: arrays of bytes that came in; arrays held against each other; what is kept by calls.
-/
import Derived.Test.YtpofndciepoooaaAeP
import Derived.ChangeKeysEq
import Derived.Laws.StructEq
import Derived.WideShapes
namespace Go.Proofs.Ytpofndciepoooaa
open Go.RowKit
set_option linter.unusedVariables false

def byteV : Value → Nat
  | .int _ z => z.toNat
  | _ => 0
section
variable {P : Program}
/-- an array of bytes that came in -/
theorem okWide_bytes {w : World} {r : Reach} {base n : Nat} {t e : TypeId} {v : Value} {ts : List TypeId} (ht : P.underlying t = some (.array n e)) (he : P.underlying e = some (.int .u8)) (hc : P.cellsOf t = n) (hts : P.cellTypes P.depth t = some ts) (hte : ∀ u ∈ ts, u = e)
    (h : Value.okWide P w r base t v) : ∃ l, v = .agg (bts l) ∧ Byt l ∧ l.length = n := by
  simp only [Value.okWide, ht] at h
  obtain ⟨cs, rfl, hs, ts', h1, _, h2⟩ := h
  rw [hts] at h1
  injection h1 with h1
  subst h1
  have hcell : ∀ i (hi : i < cs.size), ∃ x : Nat, cs[i] = .int .u8 (x : Int) ∧ x < 256 := by
    intro i hi
    obtain ⟨u, hu, hk⟩ := h2 i cs[i] (Array.getElem?_eq_getElem hi)
    have := hte u (List.mem_of_getElem? hu)
    subst this
    generalize cs[i] = v at hk
    cases v <;> simp only [Cell.okWide, he, Cell.ok] at hk
    rename_i k z
    obtain ⟨rfl, hz⟩ := hk
    have e1 : IntKind.u8.min = 0 := rfl
    have e2 : IntKind.u8.max = 255 := rfl
    simp only [IntKind.has, e1, e2] at hz
    exact ⟨z.toNat, by congr 1; omega, by omega⟩
  refine ⟨(List.range cs.size).map fun i => byteV (cs[i]?.getD undef), ?_, ?_, by simp [hs, hc]⟩
  · congr 1
    apply Array.ext (by simp [bts])
    intro i h1 h2
    obtain ⟨x, hx, _⟩ := hcell i h1
    simp [bts, hx, byteV, Array.getElem?_eq_getElem h1]
  · intro x hx
    obtain ⟨i, hi, rfl⟩ := List.mem_map.1 hx
    have hi : i < cs.size := by simpa using hi
    obtain ⟨x, hx, hb⟩ := hcell i hi
    simp only [Array.getElem?_eq_getElem hi, hx, Option.getD_some, byteV]
    omega

theorem run_part_byte (w : World) {e : TypeId} {i : TypeInfo} (l : List Nat) (k : Nat) (he : P.underlying e = some (.int .u8)) (hi : P.info? e = some i) (hs : i.size = 1) (hk : k < l.length) :
    (part e (bts l) k).run P w = .ok (.int .u8 (at' l k : Nat)) w := by
  have hg := bts_get l k hk
  simp [part, isAgg, sizeOf, typeInfo, run_underlying he, hi, hs, hg, at']
theorem run_eq_bytes (w : World) (d : Nat) {t e : TypeId} {n : Nat} {i : TypeInfo} (a b : List Nat) (hu : P.underlying t = some (.array n e)) (he : P.underlying e = some (.int .u8)) (hi : P.info? e = some i) (hs : i.size = 1) (hc : P.cellsOf e = 1) (ha : a.length = n) (hb : b.length = n) :
    (Op.equalIn (d + 2) t (.agg (bts a)) (.agg (bts b))).run P w = .ok (decide (a = b)) w := by
  rw [run_equalIn_array (d := d + 1) (w := w) (bts a) (bts b) hu hi, hc]
  have key : ∀ is : List Nat, (∀ i ∈ is, i < n) → (Op.eqItems (d + 1) e 1 (bts a) (bts b) is).run P w = .ok (decide (∀ i ∈ is, at' a i = at' b i)) w := by
    intro is
    induction is with
    | nil => intro _; simp [Op.eqItems]
    | cons j is ih =>
      intro hj
      have h1 := run_part_byte (P := P) w a j he hi hs (by rw [ha]; exact hj j (by simp))
      have h2 := run_part_byte (P := P) w b j he hi hs (by rw [hb]; exact hj j (by simp))
      have h3 := run_equalIn_int (P := P) (w := w) d e .u8 .u8 (at' a j : Nat) (at' b j : Nat) he
      simp only [Op.eqItems, Sem.run_bind, Nat.mul_one, h1, h2, h3, Result.andThen_ok]
      by_cases hab : at' a j = at' b j
      · have : (((at' a j : Nat) : Int) == ((at' b j : Nat) : Int)) = true := by rw [beq_iff_eq]; omega
        rw [this]
        simp only [Bool.not_true, Bool.false_eq_true, if_false]
        rw [ih (fun i hi => hj i (by simp [hi]))]
        simp [hab]
      · have : (((at' a j : Nat) : Int) == ((at' b j : Nat) : Int)) = false := by rw [beq_eq_false_iff_ne]; omega
        rw [this]
        simp [hab]
  rw [key _ (fun i hi => by simpa using hi)]
  congr 1
  rw [decide_eq_decide]
  constructor
  · intro h
    apply List.ext_getElem (by rw [ha, hb])
    intro i h1 h2
    have := h i (by simp; omega)
    simpa [at', List.getElem?_eq_getElem h1, List.getElem?_eq_getElem h2] using this
  · intro h
    subst h
    simp
end
theorem wpList_loadBg {ops : Array Oper} {rest : List Oper} {o : Oper} {a : Act} {w : World} {Q : Exit → Act → World → Prop} (hw : Region.wanted o (yielded ops a.tmps) = true) (ty : TypeId) (x : Operand) (ho : o.op = .load ty x)
    (g : Nat) (hx : a.eval x = .pointer (some ⟨g, 0, none⟩)) {t : TypeId} {l : List Nat} (hg : Bk w g t l) {m : Nat} {e : TypeId}
    (hu : Try.prog.underlying ty = some (.array m e)) (hi : (Try.prog.info? ty).map (·.size) = some l.length)
    (h : wpList Try.prog ops Q rest (a.put o.dst (.agg (bts l))) w) : wpList Try.prog ops Q (o :: rest) a w := by
  refine wpList_step (fun K hK => ?_)
  rw [if_pos hw]
  exact wp_loadB ty x ho g hx hg hu hi (hK _ _ h)
theorem eq16 (a b : List Nat) (ha : a.length = 16) (hb : b.length = 16) (w : World) : (Op.equalIn 10000 23 (.agg (bts a)) (.agg (bts b))).run Try.prog w = .ok (decide (a = b)) w := by
  obtain ⟨i, hi, hs⟩ := infoB
  exact run_eq_bytes w 9998 a b Try.underlying23 Try.underlying5 hi hs (by kernel_rfl) ha hb
theorem AbW.call {w0 w w' : World} (h : AbW w0 w) (hb : Below w.heap.size w w') : AbW w0 w' := Below.trans h (hb.mono (Below.size h))
theorem Cip.ab {w w' : World} {g : Nat} {v : Value} {i : Nat} (h : Cip w g v i) (hb : Below w.heap.size w w') : Cip w' g v i := h.below hb h.lt
theorem Bk.ab {w w' : World} {b : Nat} {t : TypeId} {l : List Nat} (h : Bk w b t l) (hb : Below w.heap.size w w') : Bk w' b t l := h.below hb h.lt

/-- a cipher of a key, as aes.New leaves it -/
structure CipK (w : World) (b g K : Nat) (l : List Nat) : Prop where
  wd : Bk w b 119 (wordsAll K l)
  cip : Cip w g (.slice (some ⟨b, 0, none⟩) (4 * (K + 7)) (4 * (K + 7))) 256
theorem CipK.ab {w w' : World} {b g K : Nat} {l : List Nat} (h : CipK w b g K l) (hb : Below w.heap.size w w') : CipK w' b g K l := ⟨h.wd.ab hb, h.cip.ab hb⟩
theorem new_any (K n : Nat) (l : List Nat) (A : Option Addr) (c : Nat) (w : World) (hK : K = 4 ∨ K = 8) (hn : n = 4 * K) (hin : IsB w A n c l) :
    Calls Try.prog 69 #[.slice A n c] w fun e w' => ∃ b g, e = .returned (.tuple #[.pointer (some ⟨g, 0, none⟩), .int .i64 0]) ∧ b < g ∧ w.heap.size ≤ b ∧ CipK w' b g K l ∧ Below w.heap.size w w' := by
  subst hn
  rcases hK with rfl | rfl
  · exact (new4_any l A c w hin).mono fun e w' ⟨b, g, h1, h2, h3, h4, h5, h6⟩ => ⟨b, g, h1, h2, h3, ⟨h4, h5⟩, h6⟩
  · exact (new8_any l A c w hin).mono fun e w' ⟨b, g, h1, h2, h3, h4, h5, h6⟩ => ⟨b, g, h1, h2, h3, ⟨h4, h5⟩, h6⟩
theorem encC_any (b g K : Nat) (l x : List Nat) (w : World) (hK : K = 4 ∨ K = 8) (hl : l.length = 4 * K) (hb : Byt l) (hx : Byt x) (lx : x.length = 16) (hC : CipK w b g K l) :
    Calls Try.prog 85 #[.pointer (some ⟨g, 0, none⟩), .agg (bts x)] w fun e w' => e = .returned (.tuple #[.agg (bts (encK (wordsAll K l) (K + 6) x)), .int .i64 0]) ∧ Below w.heap.size w w' :=
  enc_any g b (4 * (K + 7)) (K + 6) (wordsAll K l) x w hx lx (wordsAll_exp hK hl hb).byt (wordsAll_len l hK rfl hl) rfl (by omega) (by omega) hC.cip hC.wd
theorem may_yes (A : Option Addr) (n c : Nat) (w : World) (h : n = 16 ∨ n = 32) : Calls Try.prog 71 #[.slice A n c] w fun e w' => e = .returned (.bool true) ∧ w = w' := by
  rcases h with rfl | rfl
  all_goals
    go_enter Try.func71, Try.ntmps71
    go_wp2
    go_ret
    exact ⟨rfl, rfl⟩
theorem may_no (A : Option Addr) (n c : Nat) (w : World) (h : n ≠ 16) (h' : n ≠ 32) : Calls Try.prog 71 #[.slice A n c] w fun e w' => e = .returned (.bool false) ∧ w = w' := by
  have h1 : ((n : Int) == 16) = false := by rw [beq_eq_false_iff_ne]; omega
  have h2 : ((n : Int) == 32) = false := by rw [beq_eq_false_iff_ne]; omega
  go_enter Try.func71, Try.ntmps71
  go_wp2
  go_ret
  exact ⟨rfl, rfl⟩

theorem range_byt (n : Nat) (h : n ≤ 256) : Byt (List.range n) := fun x hx => by have := List.mem_range.1 hx; omega
end Go.Proofs.Ytpofndciepoooaa
