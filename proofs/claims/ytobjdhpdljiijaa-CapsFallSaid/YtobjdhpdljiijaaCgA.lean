/-
  CAPS: CapsFall: the plain law, the walk.
-/
import Derived.Test.YtobjdhpdljiijaaCpE
import Derived.Laws.BitsAllLaws
namespace Go.Proofs.Ytobjdhpdljiijaa
open Go.RowKit
set_option linter.unusedVariables false

theorem over_iff {a b : Nat} (ha : a < 256) (hb : b < 256) : overR a b = false ↔ ∀ i, a.testBit i = true → b.testBit i = true := by
  have h1 : bits .andNot .u8 (a : Int) (b : Int) = ((a &&& (255 - b) : Nat) : Int) := u8_andNot_nat a b ha hb
  have h2 : overR a b = false ↔ a &&& (255 - b) = 0 := by
    unfold overR
    rw [h1]
    simp
  rw [h2]
  constructor
  · intro h i hi
    have h3 : (a &&& (255 - b)).testBit i = false := by rw [h]; exact Nat.zero_testBit i
    rw [Nat.testBit_and, hi, Bool.true_and] at h3
    have h4 : (255 - b).testBit i = (decide (i < 8) && !b.testBit i) := by
      have := Nat.testBit_two_pow_sub_succ (n := 8) (x := b) hb i
      rwa [show 2 ^ 8 - (b + 1) = 255 - b by omega] at this
    rw [h4] at h3
    have h5 : i < 8 := by
      rcases Nat.lt_or_ge i 8 with h | h
      · exact h
      · have : a < 2 ^ i := Nat.lt_of_lt_of_le ha (show 2 ^ 8 ≤ 2 ^ i from Nat.pow_le_pow_right (by decide) h)
        rw [Nat.testBit_lt_two_pow this] at hi
        cases hi
    simpa [h5] using h3
  · intro h
    apply Nat.eq_of_testBit_eq
    intro i
    rw [Nat.zero_testBit, Nat.testBit_and]
    cases hi : a.testBit i with
    | false => rfl
    | true =>
      have h4 : (255 - b).testBit i = (decide (i < 8) && !b.testBit i) := by
        have := Nat.testBit_two_pow_sub_succ (n := 8) (x := b) hb i
        rwa [show 2 ^ 8 - (b + 1) = 255 - b by omega] at this
      rw [h4, h i hi]
      simp
/-- no handle has a right that who gave it has not -/
structure RrA (A : HL) : Prop where
  lt : ∀ (i : Nat) (x : Hdl), A[i]? = some x → x.r < 256
  sub : ∀ (i : Nat) (x : Hdl), A[i]? = some x → x.on = true → ∀ y, atH A x.up = some y → overR x.r y.r = false
theorem RrA.nil : RrA [] := ⟨fun i x h => by simp at h, fun i x h => by simp at h⟩
theorem RrA.at {A : HL} (h : RrA A) {k : Nat} {x : Hdl} (hx : atH A k = some x) : x.r < 256 := h.lt _ _ (atH_some.1 hx).2.1
theorem RrA.snoc {A : HL} (h : RrA A) (hA : RightA A) {r u : Nat} (hr : r < 256) (hu : ∀ y, atH A u = some y → overR r y.r = false) (hu2 : u ≤ A.length) : RrA (A ++ [⟨r, u, true⟩]) := by
  have hget : ∀ (i : Nat) (x : Hdl), (A ++ [⟨r, u, true⟩])[i]? = some x → A[i]? = some x ∨ (i = A.length ∧ x = ⟨r, u, true⟩) := fun i x hx => by
    rcases Nat.lt_or_ge i A.length with hi | hi
    · rw [List.getElem?_append_left hi] at hx; exact .inl hx
    · rw [List.getElem?_append_right hi] at hx
      cases hd : i - A.length with
      | zero =>
        rw [hd] at hx
        simp only [List.getElem?_cons_zero, Option.some.injEq] at hx
        exact .inr ⟨by omega, hx.symm⟩
      | succ n => rw [hd] at hx; simp at hx
  refine ⟨fun i x hx => ?_, fun i x hx hon y hy => ?_⟩
  · rcases hget i x hx with h1 | ⟨_, rfl⟩
    · exact h.lt i x h1
    · exact hr
  · rw [atH_snoc] at hy
    rcases hget i x hx with h1 | ⟨_, rfl⟩
    · have h2 := hA.lt i x h1
      have h3 := (List.getElem?_eq_some_iff.1 h1).1
      rw [if_neg (by omega)] at hy
      exact h.sub i x h1 hon y hy
    · rw [if_neg (by show ¬ u = A.length + 1; omega)] at hy
      exact hu y hy
theorem RrA.kill {A : HL} (h : RrA A) (v : Nat) : RrA (killH A v) := by
  refine ⟨fun i x hx => ?_, fun i x hx hon y hy => ?_⟩
  · rw [killH_at, Option.map_eq_some_iff] at hx
    obtain ⟨z, hz, rfl⟩ := hx
    exact h.lt i z hz
  · rw [killH_at, Option.map_eq_some_iff] at hx
    obtain ⟨z, hz, rfl⟩ := hx
    simp only [Bool.and_eq_true] at hon
    rw [atH_kill] at hy
    split at hy
    · cases hy
    · exact h.sub i z hz hon.1 y hy
theorem RrA.clear {A : HL} (h : RrA A) : RrA (clearH A) := by
  refine ⟨fun i x hx => ?_, fun i x hx hon y hy => ?_⟩
  · unfold clearH at hx
    rw [List.getElem?_map, Option.map_eq_some_iff] at hx
    obtain ⟨z, hz, rfl⟩ := hx
    exact h.lt i z hz
  · rw [clearH_at] at hy; cases hy
theorem RrA.put {A : HL} (h : RrA A) (hA : RightA A) {r u : Nat} (hr : r < 256) (hu : ∀ y, atH A u = some y → overR r y.r = false) (hu2 : u ≤ A.length) : RrA (putH A r u).2 := by
  unfold putH
  split
  · exact h
  · exact h.snoc hA hr hu hu2
theorem RrA.step {A : HL} (h : RrA A) (hA : RightA A) (z : Int) (k v r : Nat) (hr : r < 256) : RrA (stepH A z k v r) := by
  unfold stepH
  split
  · exact h.put hA (by decide) (fun y hy => by rw [atH_zero] at hy; cases hy) (Nat.zero_le _)
  · split
    · unfold giveH
      cases ha : atH A k with
      | none => exact h
      | some x =>
        simp only
        cases hq : (noGive x.r || overR r x.r)
        · simp only [cond_false]
          rw [Bool.or_eq_false_iff] at hq
          exact h.put hA hr (fun y hy => by rw [ha] at hy; injection hy with hy; subst hy; exact hq.2) (atH_le ha).2
        · exact h
    · split
      · unfold revokeH
        cases atH A k with
        | none => exact h
        | some x =>
          simp only
          cases atH A v with
          | none => exact h
          | some y =>
            simp only
            cases mayRv A x k v
            · exact h
            · exact h.kill v
      · split
        · exact h.clear
        · exact h
/-- who is gone stays gone -/
theorem put_dead {A : HL} {r u x : Nat} (hx : x ≤ A.length) (h : atH A x = none) : A.length ≤ (putH A r u).2.length ∧ atH (putH A r u).2 x = none := by
  unfold putH
  split
  · exact ⟨Nat.le_refl _, h⟩
  · refine ⟨by simp, ?_⟩
    rw [atH_snoc, if_neg (by omega)]
    exact h
theorem step_dead {A : HL} {x : Nat} (z : Int) (k v r : Nat) (hx : x ≤ A.length) (h : atH A x = none) : A.length ≤ (stepH A z k v r).length ∧ atH (stepH A z k v r) x = none := by
  unfold stepH
  split
  · exact put_dead hx h
  · split
    · unfold giveH
      cases atH A k with
      | none => exact ⟨Nat.le_refl _, h⟩
      | some y =>
        simp only
        cases (noGive y.r || overR r y.r)
        · exact put_dead hx h
        · exact ⟨Nat.le_refl _, h⟩
    · split
      · unfold revokeH
        cases atH A k with
        | none => exact ⟨Nat.le_refl _, h⟩
        | some y =>
          simp only
          cases atH A v with
          | none => exact ⟨Nat.le_refl _, h⟩
          | some q =>
            simp only
            cases mayRv A y k v
            · exact ⟨Nat.le_refl _, h⟩
            · simp only [cond_true]
              refine ⟨by rw [killH_len]; exact Nat.le_refl _, ?_⟩
              rw [atH_kill, h]
              split <;> rfl
      · split
        · exact ⟨by rw [clearH_len]; exact Nat.le_refl _, clearH_at A x⟩
        · exact ⟨Nat.le_refl _, h⟩
theorem step_len {A : HL} (z : Int) (k v r : Nat) : A.length ≤ (stepH A z k v r).length := (step_dead z k v r (Nat.zero_le _) (atH_zero A)).1
theorem step_right {A : HL} (hA : RightA A) (z : Int) (k v r : Nat) : RightA (stepH A z k v r) := by
  unfold stepH
  split
  · exact putH_right hA 15
  · split
    · exact giveH_right hA k r
    · split
      · exact revokeH_right hA k v
      · split
        · exact hA.clear
        · exact hA
theorem chain_lt {A : HL} (hA : RightA A) {h : Nat} : ∀ n k, h ∈ chainF n A k → h < k
  | 0, k, hm => by simp [chainF] at hm
  | n + 1, k, hm => by
    simp only [chainF] at hm
    split at hm
    · cases hm
    · rename_i h0
      have h1 := hA.upLt k
      rcases List.mem_cons.1 hm with rfl | hm
      · omega
      · have := chain_lt hA n _ hm
        omega
theorem chain_sub {A : HL} (hA : RightA A) (hR : RrA A) {h : Nat} : ∀ n k x, atH A k = some x → h ∈ chainF n A k → ∃ y, atH A h = some y ∧ overR x.r y.r = false
  | 0, k, x, _, hm => by simp [chainF] at hm
  | n + 1, k, x, hx, hm => by
    simp only [chainF] at hm
    split at hm
    · cases hm
    · rename_i h0
      have hup : upH A k = x.up := by unfold upH; rw [hx]
      obtain ⟨q1, q2, q3⟩ := atH_some.1 hx
      have hs := hA.on _ _ q2 q3 (by rw [← hup]; exact h0)
      obtain ⟨y, hy⟩ := Option.isSome_iff_exists.1 hs
      have h1 := hR.sub _ _ q2 q3 y hy
      rcases List.mem_cons.1 hm with rfl | hm
      · exact ⟨y, by rw [hup]; exact hy, h1⟩
      · rw [hup] at hm
        obtain ⟨z, hz, h2⟩ := chain_sub hA hR n x.up y hy hm
        refine ⟨z, hz, ?_⟩
        rw [over_iff (hR.at hx) (hR.at hz)]
        intro i hi
        exact (over_iff (hR.at hy) (hR.at hz)).1 h2 i ((over_iff (hR.at hx) (hR.at hy)).1 h1 i hi)
theorem below_mem {A : HL} {h k : Nat} (hb : belowH A h k = true) : h ∈ chainF A.length A k := by
  unfold belowH at hb
  rw [Bool.and_eq_true] at hb
  exact (belowF_chain A h A.length k).1 hb.2
theorem below_self {A : HL} (hA : RightA A) (h : Nat) : belowH A h h = false := by
  cases e : belowH A h h with
  | false => rfl
  | true => exact absurd (chain_lt hA _ _ (below_mem e)) (Nat.lt_irrefl _)
theorem below_anti {A : HL} (hA : RightA A) {h k : Nat} (hb : belowH A h k = true) : belowH A k h = false := by
  cases e : belowH A k h with
  | false => rfl
  | true =>
    have h1 := chain_lt hA _ _ (below_mem e)
    have h2 := chain_lt hA _ _ (below_mem hb)
    omega
theorem below_over {A : HL} (hA : RightA A) (hR : RrA A) {h k : Nat} {x y : Hdl} (hx : atH A k = some x) (hy : atH A h = some y) (hb : belowH A h k = true) : overR x.r y.r = false := by
  obtain ⟨z, hz, h1⟩ := chain_sub hA hR _ k x hx (below_mem hb)
  rw [hy] at hz
  injection hz with hz
  subst hz
  exact h1
set_option maxRecDepth 100000 in
theorem in25_any {B x : Nat} {lv : Value} {l : List Nat} {w : World} (h : U64.NsB w B lv l) (hl : l.length ≤ 100000) : Calls Try.prog 11 #[lv, .int .u64 (x : Int)] w fun e w' => e = .returned (.bool (decide (x ∈ l))) ∧ w = w' := by
  obtain ⟨A1, c1, rfl, h1⟩ := h.form
  have G1 := Lib.hid h1
  have hlb : (l.length : Int) ≤ 100000 := by omega
  clear h h1 hl
  go_enter Try.func11, Try.ntmps11
  go_wp2_with fail
  go_loopw [5] (fun z wr => ∃ i : Nat, i ≤ l.length ∧ z = .int .i64 (i : Int) ∧ w = wr ∧ x ∉ l.take i) (fun z _ => l.length - (intOf z).toNat)
  case atStart => exact ⟨0, Nat.zero_le _, rfl, rfl, by simp⟩
  case round =>
    obtain ⟨i, hi, rfl, rfl, hno⟩ := hrel
    by_cases hlt : i < l.length
    · obtain ⟨g1, rfl, x1⟩ := G1.out i hlt
      have HLT := Lib.hid hlt
      have hlti : (i : Int) < (l.length : Int) := by omega
      have HNO := Lib.hid hno
      by_cases hx : l[i] = x
      · have HM : Hid (decide (x ∈ l) = true) := Lib.hid (decide_eq_true (by rw [← hx]; exact List.getElem_mem hlt))
        have d1 : (((l[i] : Nat) : Int) == (x : Int)) = true := by simp [hx]
        generalize l[i] = z at *
        clear hlt hi hno hx
        go_wp2_with fail
        go_ret
        exact ⟨by rw [HM.out]; rfl, rfl⟩
      · have HS : Hid (x ∉ l.take (i + 1)) := Lib.hid (by
          rw [List.take_add_one, List.getElem?_eq_getElem hlt, Option.toList_some, List.mem_append, List.mem_singleton]
          rintro (h | h)
          · exact hno h
          · exact hx h.symm)
        have d1 : (((l[i] : Nat) : Int) == (x : Int)) = false := by simp; omega
        generalize l[i] = z at *
        clear hlt hi hno hx
        go_wp2_with fail
        go_roundw
        case rel => exact ⟨i + 1, HLT.out, by go_num, by first | rfl | trivial, HS.out⟩
        case measure => simp [intOf]; have := HLT.out; omega
    · obtain rfl : i = l.length := by omega
      have HM : Hid (decide (x ∈ l) = false) := Lib.hid (decide_eq_false (by rw [List.take_length] at hno; exact hno))
      clear hlt hi hno
      go_wp2_with fail
      go_ret
      exact ⟨by rw [HM.out]; rfl, rfl⟩
theorem nsb_frC {w w' : World} {B B' c : Nat} {mo : Option Nat} {A : HL} {lv : Value} {l : List Nat} (h : U64.NsB w B lv l) (hc : CpA w B' c mo A) (hf : Fr w w' (capF c mo)) : U64.NsB w' B lv l := by
  obtain ⟨n, hb⟩ := hc.box
  refine row_fr h hf fun k hk => ?_
  rintro (e | e)
  · subst e
    exact row_ne h hb (by decide) hk
  · exact map_row_ne (hc.isMap e).2 h hk
theorem CpA.grownN {w w' : World} {B B' c : Nat} {mo : Option Nat} {A : HL} {lv : Value} {l : List Nat} (h : CpA w B c mo A) (hn : U64.NsB w B' lv l) (hg : w.grownBy w' lv.ownBlock) : CpA w' B c mo A := by
  obtain ⟨n, hb⟩ := h.box
  exact h.fr (Fr.grown hg) (fun e => row_ne hn hb (by decide) e) (fun m hm e => map_row_ne (h.isMap hm).2 hn e)
namespace U64
theorem wpList_appN2 {rest : List Oper} {ops : Array Oper} {o : Oper} {a : Act} {w : World} {Q : Exit → Act → World → Prop} (hgd : o.guard = none) (s x : Operand)
    (ho : o.op = .call { callee := .builtin .append, args := #[s, x], argTypes := #[26, 26] })
    {B G : Nat} {v : Value} {ls : List Nat} (hown : NsB w B v ls) (hs : a.eval s = v) (n : Nat) (hx : a.eval x = .slice (some ⟨G, 0, none⟩) 1 1) (hG : CbB w G 28 #[.int .u64 (n : Int)]) (hl : ls.length ≤ 100000) (hB : B ≤ w.heap.size)
    (h : ∀ v' w', NsB w' B v' (ls ++ [n]) → w.grownBy w' v.ownBlock → (v'.ownBlock = v.ownBlock ∨ v'.ownBlock = some w.heap.size) → wpList Try.prog ops Q rest (a.put o.dst v') w') : wpList Try.prog ops Q (o :: rest) a w := by
  obtain ⟨i0, hi0, hz0, hz1, hz2⟩ := info_parts infoN
  obtain ⟨v1, W1, hrun, r1, r2, _, r4⟩ := run_append_own_at (P := Try.prog) w B 26 o.type 28 i0 _ 1 8 Try.underlying26 hi0 hz0 hz1 hz2 rfl (by decide) v ls.length (nvs ls) hown ⟨G, 0, none⟩ 1 1 [.int .u64 (n : Int)] rfl (row_at hG) (by simp [Value.oneCell']) (by simp only [maxLen]; omega) (by omega) hB
  refine wpList_plain hgd fun K hK => ?_
  unfold Oper.wp execOp
  simp only [ho, resolve, invoke, builtin, Sem.run_bind, Sem.run_pure, Result.andThen_ok, List.map_toArray, List.map_cons, List.map_nil, hs, hx, hrun]
  refine hK _ _ (h v1 W1 ?_ r2 r4)
  unfold NsB nvs
  rw [List.map_append, List.length_append, List.length_singleton]
  exact r1
end U64
end Go.Proofs.Ytobjdhpdljiijaa
