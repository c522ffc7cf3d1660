/-
  FOR THE LAWS: arrays of bytes that came in; arrays held against each other; what is kept by calls.
-/
import Derived.Test.YtfchlemjfdlfeaaAeQ
import Derived.ChangeKeysEq
import Derived.Laws.StructEq
import Derived.WideShapes
namespace Go.Proofs.Ytfchlemjfdlfeaa
open Go.RowKit
set_option linter.unusedVariables false

def byteV : Value → Nat
  | .int _ z => z.toNat
  | _ => 0
section
variable {P : Program}
/-- an array of bytes that came in -/
theorem okWide_bytes {w : World} {r : Reach} {base n : Nat} {t e : TypeId} {v : Value} {ts : List TypeId} (ht : P.underlying t = some (.array n e)) (he : P.underlying e = some (.int .u8)) (hc : P.cellsOf t = n) (hts : P.cellTypes P.depth t = some ts) (hte : ∀ u ∈ ts, u = e)
    (h : Value.okWide P w r base t v) : ∃ l, v = .agg (bts l) ∧ Byt l ∧ l.length = n := by
  simp only [Value.okWide, ht] at h
  obtain ⟨cs, rfl, hs, ts', h1, _, h2⟩ := h
  rw [hts] at h1
  injection h1 with h1
  subst h1
  have hcell : ∀ i (hi : i < cs.size), ∃ x : Nat, cs[i] = .int .u8 (x : Int) ∧ x < 256 := by
    intro i hi
    obtain ⟨u, hu, hk⟩ := h2 i cs[i] (Array.getElem?_eq_getElem hi)
    have := hte u (List.mem_of_getElem? hu)
    subst this
    generalize cs[i] = v at hk
    cases v <;> simp only [Cell.okWide, he, Cell.ok] at hk
    rename_i k z
    obtain ⟨rfl, hz⟩ := hk
    have e1 : IntKind.u8.min = 0 := rfl
    have e2 : IntKind.u8.max = 255 := rfl
    simp only [IntKind.has, e1, e2] at hz
    exact ⟨z.toNat, by congr 1; omega, by omega⟩
  refine ⟨(List.range cs.size).map fun i => byteV (cs[i]?.getD undef), ?_, ?_, by simp [hs, hc]⟩
  · congr 1
    apply Array.ext (by simp [bts])
    intro i h1 h2
    obtain ⟨x, hx, _⟩ := hcell i h1
    simp [bts, hx, byteV, Array.getElem?_eq_getElem h1]
  · intro x hx
    obtain ⟨i, hi, rfl⟩ := List.mem_map.1 hx
    have hi : i < cs.size := by simpa using hi
    obtain ⟨x, hx, hb⟩ := hcell i hi
    simp only [Array.getElem?_eq_getElem hi, hx, Option.getD_some, byteV]
    omega

theorem run_part_byte (w : World) {e : TypeId} {i : TypeInfo} (l : List Nat) (k : Nat) (he : P.underlying e = some (.int .u8)) (hi : P.info? e = some i) (hs : i.size = 1) (hk : k < l.length) :
    (part e (bts l) k).run P w = .ok (.int .u8 (at' l k : Nat)) w := by
  have hg := bts_get l k hk
  simp [part, isAgg, sizeOf, typeInfo, run_underlying he, hi, hs, hg, at']
theorem run_eq_bytes (w : World) (d : Nat) {t e : TypeId} {n : Nat} {i : TypeInfo} (a b : List Nat) (hu : P.underlying t = some (.array n e)) (he : P.underlying e = some (.int .u8)) (hi : P.info? e = some i) (hs : i.size = 1) (hc : P.cellsOf e = 1) (ha : a.length = n) (hb : b.length = n) :
    (Op.equalIn (d + 2) t (.agg (bts a)) (.agg (bts b))).run P w = .ok (decide (a = b)) w := by
  rw [run_equalIn_array (d := d + 1) (w := w) (bts a) (bts b) hu hi, hc]
  have key : ∀ is : List Nat, (∀ i ∈ is, i < n) → (Op.eqItems (d + 1) e 1 (bts a) (bts b) is).run P w = .ok (decide (∀ i ∈ is, at' a i = at' b i)) w := by
    intro is
    induction is with
    | nil => intro _; simp [Op.eqItems]
    | cons j is ih =>
      intro hj
      have h1 := run_part_byte (P := P) w a j he hi hs (by rw [ha]; exact hj j (by simp))
      have h2 := run_part_byte (P := P) w b j he hi hs (by rw [hb]; exact hj j (by simp))
      have h3 := run_equalIn_int (P := P) (w := w) d e .u8 .u8 (at' a j : Nat) (at' b j : Nat) he
      simp only [Op.eqItems, Sem.run_bind, Nat.mul_one, h1, h2, h3, Result.andThen_ok]
      by_cases hab : at' a j = at' b j
      · have : (((at' a j : Nat) : Int) == ((at' b j : Nat) : Int)) = true := by rw [beq_iff_eq]; omega
        rw [this]
        simp only [Bool.not_true, Bool.false_eq_true, if_false]
        rw [ih (fun i hi => hj i (by simp [hi]))]
        simp [hab]
      · have : (((at' a j : Nat) : Int) == ((at' b j : Nat) : Int)) = false := by rw [beq_eq_false_iff_ne]; omega
        rw [this]
        simp [hab]
  rw [key _ (fun i hi => by simpa using hi)]
  congr 1
  rw [decide_eq_decide]
  constructor
  · intro h
    apply List.ext_getElem (by rw [ha, hb])
    intro i h1 h2
    have := h i (by simp; omega)
    simpa [at', List.getElem?_eq_getElem h1, List.getElem?_eq_getElem h2] using this
  · intro h
    subst h
    simp
end
theorem wpList_loadBg {ops : Array Oper} {rest : List Oper} {o : Oper} {a : Act} {w : World} {Q : Exit → Act → World → Prop} (hw : Region.wanted o (yielded ops a.tmps) = true) (ty : TypeId) (x : Operand) (ho : o.op = .load ty x)
    (g : Nat) (hx : a.eval x = .pointer (some ⟨g, 0, none⟩)) {t : TypeId} {l : List Nat} (hg : Bk w g t l) {m : Nat} {e : TypeId}
    (hu : Try.prog.underlying ty = some (.array m e)) (hi : (Try.prog.info? ty).map (·.size) = some l.length)
    (h : wpList Try.prog ops Q rest (a.put o.dst (.agg (bts l))) w) : wpList Try.prog ops Q (o :: rest) a w := by
  refine wpList_step (fun K hK => ?_)
  rw [if_pos hw]
  exact wp_loadB ty x ho g hx hg hu hi (hK _ _ h)
theorem eq16 (a b : List Nat) (ha : a.length = 16) (hb : b.length = 16) (w : World) : (Op.equalIn 10000 35 (.agg (bts a)) (.agg (bts b))).run Try.prog w = .ok (decide (a = b)) w := by
  obtain ⟨i, hi, hs⟩ := infoB
  exact run_eq_bytes w 9998 a b Try.underlying35 Try.underlying5 hi hs (by kernel_rfl) ha hb
theorem AbW.call {w0 w w' : World} (h : AbW w0 w) (hb : Below w.heap.size w w') : AbW w0 w' := Below.trans h (hb.mono (Below.size h))
theorem Cip.ab {w w' : World} {g : Nat} {v : Value} {i : Nat} (h : Cip w g v i) (hb : Below w.heap.size w w') : Cip w' g v i := h.below hb h.lt
theorem Bk.ab {w w' : World} {b : Nat} {t : TypeId} {l : List Nat} (h : Bk w b t l) (hb : Below w.heap.size w w') : Bk w' b t l := h.below hb h.lt

/-- a cipher of a key, as aes.New leaves it -/
structure CipK (w : World) (b g K : Nat) (l : List Nat) : Prop where
  wd : Bk w b 34 (wordsAll K l)
  cip : Cip w g (.slice (some ⟨b, 0, none⟩) (4 * (K + 7)) (4 * (K + 7))) 256
theorem CipK.ab {w w' : World} {b g K : Nat} {l : List Nat} (h : CipK w b g K l) (hb : Below w.heap.size w w') : CipK w' b g K l := ⟨h.wd.ab hb, h.cip.ab hb⟩
theorem new_any (K n : Nat) (l : List Nat) (A : Option Addr) (c : Nat) (w : World) (hK : K = 4 ∨ K = 8) (hn : n = 4 * K) (hin : IsB w A n c l) :
    Calls Try.prog 20 #[.slice A n c] w fun e w' => ∃ b g, e = .returned (.tuple #[.pointer (some ⟨g, 0, none⟩), .int .i64 0]) ∧ b < g ∧ w.heap.size ≤ b ∧ CipK w' b g K l ∧ Below w.heap.size w w' := by
  subst hn
  rcases hK with rfl | rfl
  · exact (new4_any l A c w hin).mono fun e w' ⟨b, g, h1, h2, h3, h4, h5, h6⟩ => ⟨b, g, h1, h2, h3, ⟨h4, h5⟩, h6⟩
  · exact (new8_any l A c w hin).mono fun e w' ⟨b, g, h1, h2, h3, h4, h5, h6⟩ => ⟨b, g, h1, h2, h3, ⟨h4, h5⟩, h6⟩
theorem encC_any (b g K : Nat) (l x : List Nat) (w : World) (hK : K = 4 ∨ K = 8) (hl : l.length = 4 * K) (hb : Byt l) (hx : Byt x) (lx : x.length = 16) (hC : CipK w b g K l) :
    Calls Try.prog 25 #[.pointer (some ⟨g, 0, none⟩), .agg (bts x)] w fun e w' => e = .returned (.tuple #[.agg (bts (encK (wordsAll K l) (K + 6) x)), .int .i64 0]) ∧ Below w.heap.size w w' :=
  enc_any g b (4 * (K + 7)) (K + 6) (wordsAll K l) x w hx lx (wordsAll_exp hK hl hb).byt (wordsAll_len l hK rfl hl) rfl (by omega) (by omega) hC.cip hC.wd
theorem decC_any (b g K : Nat) (l x : List Nat) (w : World) (hK : K = 4 ∨ K = 8) (hl : l.length = 4 * K) (hb : Byt l) (hx : Byt x) (lx : x.length = 16) (hC : CipK w b g K l) :
    Calls Try.prog 27 #[.pointer (some ⟨g, 0, none⟩), .agg (bts x)] w fun e w' => e = .returned (.tuple #[.agg (bts (decK (wordsAll K l) (K + 6) x)), .int .i64 0]) ∧ Below w.heap.size w w' :=
  dec_any g b (4 * (K + 7)) (K + 6) (wordsAll K l) x w hx lx (wordsAll_exp hK hl hb).byt (wordsAll_len l hK rfl hl) rfl (by omega) (by omega) hC.cip hC.wd

theorem may_yes (A : Option Addr) (n c : Nat) (w : World) (h : n = 16 ∨ n = 32) : Calls Try.prog 22 #[.slice A n c] w fun e w' => e = .returned (.bool true) ∧ w = w' := by
  rcases h with rfl | rfl
  all_goals
    go_enter Try.func22, Try.ntmps22
    go_wp2
    go_ret
    exact ⟨rfl, rfl⟩
theorem may_no (A : Option Addr) (n c : Nat) (w : World) (h : n ≠ 16) (h' : n ≠ 32) : Calls Try.prog 22 #[.slice A n c] w fun e w' => e = .returned (.bool false) ∧ w = w' := by
  have h1 : ((n : Int) == 16) = false := by rw [beq_eq_false_iff_ne]; omega
  have h2 : ((n : Int) == 32) = false := by rw [beq_eq_false_iff_ne]; omega
  go_enter Try.func22, Try.ntmps22
  go_wp2
  go_ret
  exact ⟨rfl, rfl⟩

/-! the standard's example -/
def stdBlock : List Nat := (List.range 16).map fun i => 17 * i
theorem std_enc : encK (wordsAll 4 (List.range 16)) 10 stdBlock = [0x69, 0xc4, 0xe0, 0xd8, 0x6a, 0x7b, 0x04, 0x30, 0xd8, 0xcd, 0xb7, 0x80, 0x70, 0xb4, 0xc5, 0x5a] := by decide +kernel
theorem stdBlock_byt : Byt stdBlock := by unfold Byt stdBlock; decide
theorem range_byt (n : Nat) (h : n ≤ 256) : Byt (List.range n) := fun x hx => by have := List.mem_range.1 hx; omega
set_option maxRecDepth 100000 in
set_option maxHeartbeats 1000000 in
theorem count_any (n : Nat) (hn : n ≤ 256) (w : World) : Calls Try.prog 29 #[.int .i64 0, .int .i64 (n : Int)] w fun e w' => ∃ v, e = .returned v ∧ OwB w' w.heap.size v (List.range n) ∧ Below w.heap.size w w' := by
  obtain ⟨i0, hi0, hz0, hz1, hz2⟩ := info_parts infoU8
  go_enter Try.func29, Try.ntmps29
  go_wp2_with fail
  go_loopw [5, 6] (fun v j wr => ∃ i : Nat, i ≤ n ∧ j = .int .i64 i ∧ OwB wr w.heap.size v (List.range i) ∧ Below w.heap.size w wr) (fun _ j _ => n - (intOf j).toNat)
  case atStart => exact ⟨0, by omega, rfl, OwB.nil _ _, Below.refl _ _⟩
  case round =>
    obtain ⟨i, hi, rfl, ho, hb⟩ := hrel
    by_cases hlt : i < n
    · have hlti : (i : Int) < (n : Int) := by omega
      have hwr : IntKind.u8.wrap (i : Int) = (i : Int) := by show (i : Int) % 256 = (i : Int); omega
      have HO := Lib.hid ho
      have HB := Lib.hid hb
      clear ho hb
      go_wp2_with (refine wpList_appB _ rfl (.tmp 12) (.tmp 17) rfl Try.underlying22 hi0 hz0 hz1 hz2 rfl (HO.out.alloc _) rfl (isB_one _ i (by omega)) rfl (by rw [List.length_range]; omega) (by have := HB.out.size; simp; omega) ?_; intro v1 w2 hown2 hb2 hg2 hat2; rw [← List.range_succ] at hown2)
      have hb3 := (HB.out.alloc HB.out.size _).trans hb2
      have H1 := Lib.hid hown2
      have H2 := Lib.hid hb3
      clear hown2 hb2 hg2 hat2 hb3
      go_wp2_with fail
      go_roundw
      case rel => exact ⟨i + 1, by omega, by go_num, H1.out, H2.out⟩
      case measure => simp [intOf]; omega
    · obtain rfl : i = n := by omega
      have HO := Lib.hid ho
      have HB := Lib.hid hb
      clear ho hb
      go_wp2_with fail
      go_ret
      exact ⟨_, rfl, HO.out, HB.out⟩
set_option maxRecDepth 100000 in
set_option maxHeartbeats 1000000 in
theorem block_any (w : World) : Calls Try.prog 30 #[] w fun e w' => e = .returned (.agg (bts stdBlock)) ∧ Below w.heap.size w w' := by
  go_enter Try.func30, Try.ntmps30
  go_wp2_with fail
  go_loopw [3] (fun j wr => ∃ i : Nat, i ≤ 16 ∧ j = .int .i64 i ∧ Bk wr (w.heap.size + 1) 35 (upd (fun i => 17 * i) z16 i) ∧ Bk wr w.heap.size 35 z16 ∧ Below w.heap.size w wr) (fun j _ => 16 - (intOf j).toNat)
  case atStart => exact ⟨0, by omega, rfl, by rw [upd_zero]; exact Bk.newAt _ z16 (by simp), (Bk.newAt _ z16 rfl).alloc _, ((Below.refl _ _).alloc (Nat.le_refl _) _).alloc (by simp) _⟩
  case round =>
    obtain ⟨i, hi, rfl, ho, hz, hb⟩ := hrel
    by_cases hlt : i < 16
    · have hlti : (i : Int) < 16 := by omega
      have hwr : IntKind.u8.wrap (17 * (i : Int)) = ((17 * i : Nat) : Int) := by show (17 * (i : Int)) % 256 = _; omega
      have hc := ho.cell (k := i) (by rw [upd_len]; exact hlt)
      have hf := ho.free i
      have hst := ho.set i (17 * i)
      rw [upd_step (fun i => 17 * i) z16 i hlt] at hst
      have H1 := Lib.hid hst
      have H2 := Lib.hid (hz.far (c := w.heap.size + 1) (k := i) (by omega) (.int .u8 ((17 * i : Nat) : Int)))
      have H3 := Lib.hid (hb.setCell (p := ⟨w.heap.size + 1, i, none⟩) (by show w.heap.size ≤ w.heap.size + 1; omega) (.int .u8 ((17 * i : Nat) : Int)))
      generalize (upd (fun i => 17 * i) z16 i)[i]?.getD 0 = y at hc
      generalize 17 * i = z at *
      clear hst ho hz hb
      go_wp2_with fail
      go_roundw
      case rel => exact ⟨i + 1, by omega, by go_num, H1.out, H2.out, H3.out⟩
      case measure => simp [intOf]; omega
    · obtain rfl : i = 16 := by omega
      have e : upd (fun i => 17 * i) z16 16 = stdBlock := upd_all (fun i => 17 * i) z16
      rw [e] at ho
      have hl : stdBlock.length = 16 := rfl
      generalize hye : stdBlock = y at ho hl
      have HYE := Lib.hid hye
      clear hye
      have HO := Lib.hid ho
      have HZ := Lib.hid hz
      have HB := Lib.hid hb
      have HL := Lib.hid hl
      clear ho hz hb hl e
      go_wp2_with (first
        | (refine wpList_loadB (o := ⟨some 12, _, _, _, _, _⟩) rfl 35 (.tmp 1) rfl _ rfl HO.out Try.underlying35 (by rw [HL.out]; exact sz16) ?_)
        | (refine wpList_storeB (o := ⟨none, .store _ (.tmp 0) (.tmp 12), _, _, _, _⟩) rfl 35 (.tmp 0) (.tmp 12) rfl _ rfl y rfl HZ.out (by rw [HL.out]; exact sz16) (by rw [HL.out]; rfl) ?_))
      refine bodyPost_ret (results_bts Try.results30 _ _ _ rfl (HZ.out.row y) Try.underlying35 (by rw [HL.out]; exact sz16)) rfl ?_
      exact ⟨by rw [HYE.out], Below.row HB.out (by omega) _⟩
end Go.Proofs.Ytfchlemjfdlfeaa
