/-
  WALK: QuotaCosts returns true; a slice of pairs that came in, opened.
-/
import Derived.Test.YtlbpddkhfoddkaaQuH
import Derived.Test.YtlbpddkhfoddkaaFrame
namespace Go.Proofs.Ytlbpddkhfoddkaa
open Go.ChangeShapes Go.WideShapes Go.RowKit Go.Deep
set_option linter.unusedVariables false

section
variable {H : Type} {enc : TypeId × Value → H} {P : Program} {w : World} {base : Nat} {spare : Nat → Bool} {held : Bool}
theorem slice_of_trod {t e : TypeId} {fuel : Nat} {v : Value} {x : DataW H × List MemPlace} (ht : P.underlying t = some (.slice e)) (h : DataW.trod enc P w base spare held fuel t [v] = some x) : ∃ z : Option Addr × Nat × Nat, v = .slice z.1 z.2.1 z.2.2 := by
  rcases open_slice ht h with ⟨h1, _⟩ | ⟨a, len, cap, m, n, D, Pl, h1, _⟩
  · injection h1 with h1
    exact ⟨(none, 0, 0), h1⟩
  · injection h1 with h1
    exact ⟨(some a, len, cap), h1⟩

theorem isPairs_of {W : World} {t e s0 s1 b0 b1 : TypeId} {f0 f1 : Field} {a : Option Addr} {len cap : Nat} {d : DataW H} {p : List MemPlace} (ht : P.underlying t = some (.slice e)) (he : P.underlying e = some (.struct #[f0, f1])) (hc : P.cellsOf e = 2)
    (h0 : f0.type = s0 ∧ f0.offset = 0 ∧ P.cellsOf s0 = 1 ∧ P.underlying s0 = some (.slice b0)) (h1 : f1.type = s1 ∧ f1.offset = 1 ∧ P.cellsOf s1 = 1 ∧ P.underlying s1 = some (.slice b1))
    (h : DataW.Trod enc P W 0 (fun _ => true) true t (.slice a len cap) d p) (hlt : ∀ x ∈ p, x.block < W.heap.size) : ∃ K V, IsPairs W a len cap K V := by
  obtain ⟨fuel, hf⟩ := h
  rcases open_slice ht hf with ⟨hcs, _⟩ | ⟨x, l, c, m, n, D, Pl, hcs, hb, hl, hm, hmm, hx, hi⟩
  · simp [Value.cells] at hcs
    obtain ⟨rfl, rfl, rfl⟩ := hcs
    exact ⟨fun _ => (none, 0, 0), fun _ => (none, 0, 0), Nat.le_refl _, Nat.zero_le _, .inl ⟨rfl, rfl⟩⟩
  · simp [Value.cells] at hcs
    obtain ⟨rfl, rfl, rfl⟩ := hcs
    have hm2 : m = cap := by simpa using hmm
    subst hm2
    have hp : p = MemPlace.row x (m * P.cellsOf e) ++ (List.range m).flatMap Pl := by simpa using congrArg (·.2) hx
    have each : ∀ i, i < m → ∃ K V : Option Addr × Nat × Nat, W.cell? (x.add (i * 2)) = some (.slice K.1 K.2.1 K.2.2) ∧ W.cell? (x.add (i * 2 + 1)) = some (.slice V.1 V.2.1 V.2.2) := by
      intro i him
      obtain ⟨cs', hcell, htr⟩ := hi i him
      rw [hc] at hcell
      obtain ⟨y0, y1, n', _, hcl, hy0, hy1⟩ := trod_struct2 he htr
      obtain ⟨_, hcl2, hat⟩ := World.cells?_some hcell
      match cs', hcl2 with
      | [c0, c1], _ =>
        rw [h0.1, h0.2.1, h0.2.2.1] at hy0
        rw [h1.1, h1.2.1, h1.2.2.1] at hy1
        obtain ⟨K, hK⟩ := slice_of_trod h0.2.2.2 (v := c0) (by simpa using hy0)
        obtain ⟨V, hV⟩ := slice_of_trod h1.2.2.2 (v := c1) (by simpa using hy1)
        refine ⟨K, V, ?_, ?_⟩
        · have := hat 0 (by omega)
          rw [add_twice] at this
          simpa [hK] using this
        · have := hat 1 (by omega)
          rw [add_twice] at this
          simpa [hV] using this
    refine ⟨fun i => if h : i < m then (each i h).choose else (none, 0, 0), fun i => if h : i < m then (each i h).choose_spec.choose else (none, 0, 0), hl, hm, .inr ⟨x, rfl, fun h0' => ?_, fun i hil => ?_⟩⟩
    · have h2 : MemPlace.cell x.block x.off ∈ p := by
        rw [hp, hc]
        refine List.mem_append_left _ ?_
        simp only [MemPlace.row, List.mem_map, List.mem_range]
        exact ⟨0, by omega, by simp⟩
      exact hlt _ h2
    · have him : i < m := by omega
      simp only [him, dif_pos]
      exact (each i him).choose_spec.choose_spec
end

set_option maxHeartbeats 2000000 in
theorem costs_any (n : Int) (ka va A : Option Addr) (kl kc vl vc pn pc : Nat) (K V : Nat → Option Addr × Nat × Nat) (w : World) (h : IsPairs w A pn pc K V) :
    Calls Try.prog 5 #[.int .i64 n, .slice ka kl kc, .slice va vl vc, .slice A pn pc] w fun e w' => e = .returned (.bool true) ∧ Below w.heap.size w w' := by
  have H := Lib.hid h
  clear h
  rcases three n 0 1024 with hn | ⟨hn0, hn⟩ | ⟨hn0, hn, hn1⟩
  all_goals
    by_cases hp : 3000 < pn
    · have hp' : decide (3000 < (pn : Int)) = true := by simp; omega
      go_enter Try.func5, Try.ntmps5
      go_wp2_with first
        | (go_at_call 16; first | (refine (qPieces_ok _ _ (by omega) (by omega)).mono ?_; rintro e w' ⟨rfl, rfl⟩) | (refine (qPieces_bad _ _ (by omega)).mono ?_; rintro e w' ⟨rfl, rfl⟩))
        | (go_at_call 17; refine (rPieces_any _ _ (by omega) (by omega)).mono ?_; rintro e w' ⟨rfl, rfl⟩)
        | (go_at_call 18; refine (qCost_any _ _ _ _ _ _ _).mono ?_; rintro e w' ⟨rfl, rfl⟩)
        | (go_at_call 19; refine (rCost_any _ _ _ _ _ _ _).mono ?_; rintro e w' ⟨rfl, rfl⟩)
        | (go_at_call 11; refine (known_any _).mono ?_; rintro e w' ⟨rfl, hb⟩)
      go_ret
      exact ⟨rfl, hb⟩
    · have hp' : decide (3000 < (pn : Int)) = false := by simp; omega
      obtain ⟨r, q, hform⟩ : ∃ r q : Int, ∀ e, ChargeEnd pn K V e → e = .returned (.tuple #[.int .i64 r, .int .i64 q]) := by
        cases hok : chOk (cE K V) pn
        · exact ⟨0, 2, fun e he => by unfold ChargeEnd at he; rw [hok] at he; exact he⟩
        · exact ⟨_, 0, fun e he => by unfold ChargeEnd at he; rw [hok] at he; exact he⟩
      have HF := Lib.hid hform
      clear hform
      go_enter Try.func5, Try.ntmps5
      go_wp2_with first
        | (go_at_call 16; first | (refine (qPieces_ok _ _ (by omega) (by omega)).mono ?_; rintro e w' ⟨rfl, rfl⟩) | (refine (qPieces_bad _ _ (by omega)).mono ?_; rintro e w' ⟨rfl, rfl⟩))
        | (go_at_call 17; refine (rPieces_any _ _ (by omega) (by omega)).mono ?_; rintro e w' ⟨rfl, rfl⟩)
        | (go_at_call 18; refine (qCost_any _ _ _ _ _ _ _).mono ?_; rintro e w' ⟨rfl, rfl⟩)
        | (go_at_call 19; refine (rCost_any _ _ _ _ _ _ _).mono ?_; rintro e w' ⟨rfl, rfl⟩)
        | (go_at_call 20; refine (qCharge_any _ _ _ K V _ H.out (by omega)).mono ?_; rintro e w1 ⟨he, hb1⟩; have he' := HF.out _ he; subst he'; have HB1 := Lib.hid hb1; clear he hb1)
        | (go_at_call 21; refine (rCharge_any _ _ _ K V _ (H.out.below HB1.out) (by omega)).mono ?_; rintro e w2 ⟨he, hb2⟩; have he' := HF.out _ he; subst he'; have HB2 := Lib.hid (HB1.out.trans (hb2.mono HB1.out.size)); clear he hb2)
        | (go_at_call 11; refine (known_any _).mono ?_; rintro e w' ⟨rfl, hb⟩)
      go_ret
      exact ⟨rfl, HB2.out.trans (hb.mono HB2.out.size)⟩

theorem costs_walk {H : Type} {enc : TypeId × Value → H} (n : Int) (ka : Option Addr) (kl kc : Nat) (kz : List Int) (va : Option Addr) (vl vc : Nat) (vz : List Int) (v : Value) (w : World) {d : DataW H} {p : List MemPlace}
    (_ : (Lit.int .i64 n).wf = true) (_ : IsRow .u8 w ka kl kc kz) (_ : kc * 1 ≤ 140737488351232) (_ : IsRow .u8 w va vl vc vz) (_ : vc * 1 ≤ 140737488351232)
    (hv : ∃ base, Value.okWide Try.prog w .any base 32 v) (h : DataW.Trod enc Try.prog w 0 (fun _ => true) true 32 v d p) (hlt : ∀ x ∈ p, x.block < w.heap.size) :
    Calls Try.prog 5 #[.int .i64 n, .slice ka kl kc, .slice va vl vc, v] w fun e w' => e = .returned (.bool true) ∧ Below w.heap.size w w' := by
  have hsh : ∃ A pn pc, v = .slice A pn pc := by
    obtain ⟨base, hv⟩ := hv
    exact okWide_slice Try.underlying32 hv
  obtain ⟨A, pn, pc, rfl⟩ := hsh
  obtain ⟨K, V, hp⟩ := isPairs_of Try.underlying32 Try.underlying52 (by kernel_rfl) ⟨rfl, rfl, by kernel_rfl, Try.underlying31⟩ ⟨rfl, rfl, by kernel_rfl, Try.underlying31⟩ h hlt
  exact costs_any n ka va A kl kc vl vc pn pc K V w hp

end Go.Proofs.Ytlbpddkhfoddkaa
